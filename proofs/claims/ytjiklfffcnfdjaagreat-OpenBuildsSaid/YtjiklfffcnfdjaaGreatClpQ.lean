/- Plain law: what of a triangle lies over a column: points, heights, turned and moved. -/
import Derived.Test.YtjiklfffcnfdjaaGreatClpP
namespace Go.Proofs.YtjiklfffcnfdjaaGreat

theorem open_flat {a b c : V3} {t : T3} (h : openT a b c = (t, true)) : t.s = flatS t.a t.b t.c ∧ 0 < t.s := by
  unfold openT at h
  by_cases hv : (vOk a && vOk b && vOk c) = true
  · rw [if_pos hv] at h
    split at h
    · cases h
      refine ⟨?_, by simp only; omega⟩
      simp only [flatS, crossI]
      grind
    · rw [Prod.mk.injEq, decide_eq_true_eq] at h
      obtain ⟨rfl, h2⟩ := h
      exact ⟨rfl, by simp only; omega⟩
  · rw [if_neg hv] at h
    cases h

/-! ### The shares of a point -/
theorem bary_d (a b c : V3) (p : Sp) : edgeS a b p + edgeS b c p + edgeS c a p = flatS a b c * p.d := by
  simp only [edgeS, flatS, crossI]
  grind
theorem bary_x (a b c : V3) (p : Sp) : a.x * edgeS b c p + b.x * edgeS c a p + c.x * edgeS a b p = flatS a b c * p.x := by
  simp only [edgeS, flatS, crossI]
  grind
theorem bary_z (a b c : V3) (p : Sp) : a.z * edgeS b c p + b.z * edgeS c a p + c.z * edgeS a b p = flatS a b c * p.z := by
  simp only [edgeS, flatS, crossI]
  grind
theorem bary_y (t : T3) (p : Sp) (h : t.s = flatS t.a t.b t.c) : t.a.y * edgeS t.b t.c p + t.b.y * edgeS t.c t.a p + t.c.y * edgeS t.a t.b p = (rawT t p).y := by
  simp only [rawT, h, edgeS, flatS, nxT, nzT, crossI]
  grind
theorem flat_rot (a b c : V3) : flatS b c a = flatS a b c := by
  simp only [flatS, crossI]
  grind

/-- Where a side crosses a line: on the side. -/
theorem along_on (a b c : V3) (n : Int) (h : (alongP a b n).2 = true) :
    0 < (alongP a b n).1.d ∧ edgeS a b (alongP a b n).1 = 0 ∧ ∃ k l : Int, 0 ≤ k ∧ 0 ≤ l ∧ edgeS b c (alongP a b n).1 = k * flatS a b c ∧ edgeS c a (alongP a b n).1 = l * flatS a b c := by
  unfold alongP at h ⊢
  simp only at h ⊢
  split at h
  · cases h
  · rename_i hn
    rw [if_neg hn]
    have hn1 : b.x - a.x ≠ 0 := fun h => hn (.inl h)
    have hn2 : 0 ≤ (n - a.x) * (b.x - a.x) := by
      rcases Int.lt_or_le ((n - a.x) * (b.x - a.x)) 0 with h | h
      · exact absurd (.inr (.inl h)) hn
      · exact h
    have hn3 : 0 ≤ (b.x - n) * (b.x - a.x) := by
      rcases Int.lt_or_le ((b.x - n) * (b.x - a.x)) 0 with h | h
      · exact absurd (.inr (.inr h)) hn
      · exact h
    split
    · rename_i hd
      refine ⟨by simp only; omega, by simp only [edgeS, crossI]; grind, n - b.x, a.x - n, ?_, ?_, by simp only [edgeS, flatS, crossI]; grind, by simp only [edgeS, flatS, crossI]; grind⟩
      · rcases Int.lt_or_le (n - b.x) 0 with h | h
        · have := Int.mul_neg_of_pos_of_neg (a := b.x - n) (b := b.x - a.x) (by omega) hd
          omega
        · exact h
      · rcases Int.lt_or_le (a.x - n) 0 with h | h
        · have := Int.mul_neg_of_pos_of_neg (a := n - a.x) (b := b.x - a.x) (by omega) hd
          omega
        · exact h
    · rename_i hd
      refine ⟨by simp only; omega, by simp only [edgeS, crossI]; grind, b.x - n, n - a.x, ?_, ?_, by simp only [edgeS, flatS, crossI]; grind, by simp only [edgeS, flatS, crossI]; grind⟩
      · rcases Int.lt_or_le (b.x - n) 0 with h | h
        · have := Int.mul_neg_of_neg_of_pos (a := b.x - n) (b := b.x - a.x) h (by omega)
          omega
        · exact h
      · rcases Int.lt_or_le (n - a.x) 0 with h | h
        · have := Int.mul_neg_of_neg_of_pos (a := n - a.x) (b := b.x - a.x) h (by omega)
          omega
        · exact h
theorem alongQ_on (a b c : V3) (n : Int) (h : (alongQ a b n).2 = true) :
    0 < (alongQ a b n).1.d ∧ edgeS a b (alongQ a b n).1 = 0 ∧ ∃ k l : Int, 0 ≤ k ∧ 0 ≤ l ∧ edgeS b c (alongQ a b n).1 = k * flatS a b c ∧ edgeS c a (alongQ a b n).1 = l * flatS a b c := by
  have ht : ∀ (u v : V3) (p : Sp), edgeS (turnV u) (turnV v) p = -edgeS u v ⟨p.z, p.x, p.d⟩ := by
    intro u v p
    simp only [edgeS, turnV, crossI]
    grind
  have hf : flatS (turnV a) (turnV b) (turnV c) = -flatS a b c := by
    simp only [flatS, turnV, crossI]
    grind
  obtain ⟨hd, h0, k, l, hk, hl, h1, h2⟩ := along_on (turnV a) (turnV b) (turnV c) n h
  rw [ht] at h0 h1 h2
  rw [hf] at h1 h2
  refine ⟨hd, ?_, k, l, hk, hl, ?_, ?_⟩
  · show edgeS a b ⟨_, _, _⟩ = 0
    omega
  · show edgeS b c ⟨_, _, _⟩ = _
    rw [Int.mul_neg] at h1
    omega
  · show edgeS c a ⟨_, _, _⟩ = _
    rw [Int.mul_neg] at h2
    omega

/-- A point of the triangle over the column. -/
def InT (t : T3) (x z : Int) (p : Sp) : Prop := 0 < p.d ∧ 0 ≤ edgeS t.a t.b p ∧ 0 ≤ edgeS t.b t.c p ∧ 0 ≤ edgeS t.c t.a p ∧ overS x z p = true
theorem keep_mem {x z : Int} {r : Sp × Bool} {p : Sp} : p ∈ keepS x z r ↔ r.2 = true ∧ overS x z r.1 = true ∧ p = r.1 := by
  unfold keepS
  split
  · rename_i h
    rw [Bool.and_eq_true] at h
    simp [h]
  · rename_i h
    rw [Bool.and_eq_true] at h
    constructor
    · intro h'; cases h'
    · rintro ⟨h1, h2, _⟩; exact absurd ⟨h1, h2⟩ h
theorem side_mem {x z : Int} {a b : V3} {p : Sp} : p ∈ sideS x z a b ↔ ∃ n, (n = x ∨ n = x + 1 ∨ n = z ∨ n = z + 1) ∧ (p ∈ keepS x z (alongP a b n) ∨ p ∈ keepS x z (alongQ a b n)) := by
  unfold sideS
  rw [List.mem_append, List.mem_flatMap, List.mem_flatMap]
  simp only [List.mem_cons, List.not_mem_nil, or_false]
  constructor
  · rintro (⟨n, hn, h⟩ | ⟨n, hn, h⟩)
    · exact ⟨n, hn, .inl h⟩
    · exact ⟨n, hn, .inr h⟩
  · rintro ⟨n, hn, h | h⟩
    · exact .inl ⟨n, hn, h⟩
    · exact .inr ⟨n, hn, h⟩
theorem side_in {x z : Int} (a b c : V3) {p : Sp} (h : p ∈ sideS x z a b) (hf : 0 ≤ flatS a b c) : 0 < p.d ∧ 0 ≤ edgeS a b p ∧ 0 ≤ edgeS b c p ∧ 0 ≤ edgeS c a p ∧ overS x z p = true := by
  obtain ⟨n, _, h | h⟩ := side_mem.1 h
  · obtain ⟨h1, h2, rfl⟩ := keep_mem.1 h
    obtain ⟨hd, h0, k, l, hk, hl, e1, e2⟩ := along_on a b c n h1
    exact ⟨hd, by omega, by rw [e1]; exact Int.mul_nonneg hk hf, by rw [e2]; exact Int.mul_nonneg hl hf, h2⟩
  · obtain ⟨h1, h2, rfl⟩ := keep_mem.1 h
    obtain ⟨hd, h0, k, l, hk, hl, e1, e2⟩ := alongQ_on a b c n h1
    exact ⟨hd, by omega, by rw [e1]; exact Int.mul_nonneg hk hf, by rw [e2]; exact Int.mul_nonneg hl hf, h2⟩
theorem spots_mem {t : T3} {x z : Int} {p : Sp} : p ∈ spotsS t x z ↔ (p ∈ colS x z ∧ holdsT t p = true) ∨ (p ∈ verS t ∧ overS x z p = true) ∨ p ∈ sideS x z t.a t.b ∨ p ∈ sideS x z t.b t.c ∨ p ∈ sideS x z t.c t.a := by
  unfold spotsS
  simp only [List.mem_append, List.mem_filter]
  constructor
  · rintro ((h | h) | ((h | h) | h)) <;> simp [h]
  · rintro (h | h | h | h | h) <;> simp [h]
theorem ver_edge (a b c : V3) : edgeS a b ⟨a.x, a.z, 1⟩ = 0 ∧ edgeS b c ⟨a.x, a.z, 1⟩ = flatS a b c ∧ edgeS c a ⟨a.x, a.z, 1⟩ = 0 := by
  simp only [edgeS, flatS, crossI]
  refine ⟨by grind, by grind, by grind⟩
theorem spots_in {t : T3} {x z : Int} {p : Sp} (ht : t.s = flatS t.a t.b t.c) (hs : 0 < t.s) (h : p ∈ spotsS t x z) : InT t x z p := by
  have f2 := flat_rot t.a t.b t.c
  have f3 := flat_rot t.b t.c t.a
  rcases spots_mem.1 h with ⟨h1, h2⟩ | ⟨h1, h2⟩ | h1 | h1 | h1
  · unfold holdsT at h2
    rw [Bool.and_eq_true, Bool.and_eq_true, decide_eq_true_eq, decide_eq_true_eq, decide_eq_true_eq] at h2
    have ho : 0 < p.d ∧ overS x z p = true := by
      simp only [colS, List.mem_cons, List.not_mem_nil, or_false] at h1
      unfold overS
      rcases h1 with rfl | rfl | rfl | rfl <;> (simp; try omega)
    exact ⟨ho.1, h2.1.1, h2.1.2, h2.2, ho.2⟩
  · simp only [verS, List.mem_cons, List.not_mem_nil, or_false] at h1
    rcases h1 with rfl | rfl | rfl
    · obtain ⟨e1, e2, e3⟩ := ver_edge t.a t.b t.c
      exact ⟨Int.zero_lt_one, by omega, by omega, by omega, h2⟩
    · obtain ⟨e1, e2, e3⟩ := ver_edge t.b t.c t.a
      exact ⟨Int.zero_lt_one, by omega, by omega, by omega, h2⟩
    · obtain ⟨e1, e2, e3⟩ := ver_edge t.c t.a t.b
      exact ⟨Int.zero_lt_one, by omega, by omega, by omega, h2⟩
  · obtain ⟨h3, h4, h5, h6, h7⟩ := side_in t.a t.b t.c h1 (by omega)
    exact ⟨h3, h4, h5, h6, h7⟩
  · obtain ⟨h3, h4, h5, h6, h7⟩ := side_in t.b t.c t.a h1 (by omega)
    exact ⟨h3, h6, h4, h5, h7⟩
  · obtain ⟨h3, h4, h5, h6, h7⟩ := side_in t.c t.a t.b h1 (by omega)
    exact ⟨h3, h5, h6, h4, h7⟩

/-! ### A weighed middle lies between -/
theorem mid_ge {m u v w e f g : Int} (hu : m ≤ u) (hv : m ≤ v) (hw : m ≤ w) (he : 0 ≤ e) (hf : 0 ≤ f) (hg : 0 ≤ g) : m * (g + e + f) ≤ u * e + v * f + w * g := by
  have h1 := Int.mul_le_mul_of_nonneg_right hu he
  have h2 := Int.mul_le_mul_of_nonneg_right hv hf
  have h3 := Int.mul_le_mul_of_nonneg_right hw hg
  have h4 : m * (g + e + f) = m * e + m * f + m * g := by grind
  omega
theorem mid_le {m u v w e f g : Int} (hu : u ≤ m) (hv : v ≤ m) (hw : w ≤ m) (he : 0 ≤ e) (hf : 0 ≤ f) (hg : 0 ≤ g) : u * e + v * f + w * g ≤ m * (g + e + f) := by
  have h1 := Int.mul_le_mul_of_nonneg_right hu he
  have h2 := Int.mul_le_mul_of_nonneg_right hv hf
  have h3 := Int.mul_le_mul_of_nonneg_right hw hg
  have h4 : m * (g + e + f) = m * e + m * f + m * g := by grind
  omega
theorem raw_d {t : T3} {p : Sp} (hs : 0 < t.s) (hd : 0 < p.d) : 0 < (rawT t p).d := Int.mul_pos hs hd
theorem raw_between {t : T3} {x z : Int} {p : Sp} (ht : t.s = flatS t.a t.b t.c) (h : InT t x z p) (m : Int) :
    (m ≤ t.a.y → m ≤ t.b.y → m ≤ t.c.y → m * (rawT t p).d ≤ (rawT t p).y) ∧ (t.a.y ≤ m → t.b.y ≤ m → t.c.y ≤ m → (rawT t p).y ≤ m * (rawT t p).d) := by
  obtain ⟨hd, h1, h2, h3, _⟩ := h
  have e1 := bary_d t.a t.b t.c p
  have e2 := bary_y t p ht
  have e3 : (rawT t p).d = edgeS t.a t.b p + edgeS t.b t.c p + edgeS t.c t.a p := by rw [e1, ← ht]; rfl
  rw [← e2, e3]
  exact ⟨fun ha hb hc => mid_ge ha hb hc h2 h3 h1, fun ha hb hc => mid_le ha hb hc h2 h3 h1⟩
theorem floor_ge {m y d : Int} (hd : 0 < d) (h : m * d ≤ y) : m ≤ floorI y d := (Int.le_ediv_iff_mul_le hd).2 h
theorem ceil_le {m y d : Int} (hd : 0 < d) (h : y ≤ m * d) : ceilI y d ≤ m := by
  have := (Int.le_ediv_iff_mul_le (a := -m) (b := -y) hd).2 (by rw [Int.neg_mul]; omega)
  unfold ceilI
  omega
theorem floor_ceil (y : Int) {d : Int} (hd : 0 < d) : floorI y d ≤ ceilI y d := by
  unfold floorI ceilI
  have h1 := Int.mul_ediv_self_le (x := y) (k := d) (by omega)
  have h2 := Int.mul_ediv_self_le (x := -y) (k := d) (by omega)
  have h3 : d * (y / d + -y / d) ≤ 0 := by rw [Int.mul_add]; omega
  rcases Int.lt_or_le 0 (y / d + -y / d) with h | h
  · have := Int.mul_pos hd h; omega
  · omega
theorem floor_add (y m : Int) {d : Int} (hd : 0 < d) : floorI (y + m * d) d = floorI y d + m := by
  unfold floorI
  rw [Int.add_mul_ediv_right _ _ (by omega)]
theorem ceil_add (y m : Int) {d : Int} (hd : 0 < d) : ceilI (y + m * d) d = ceilI y d + m := by
  unfold ceilI
  have : -(y + m * d) = -y + -m * d := by rw [Int.neg_mul]; omega
  rw [this, Int.add_mul_ediv_right _ _ (by omega)]
  omega
theorem floor_scale (y : Int) {d g : Int} (hg : 0 < g) : floorI (g * y) (g * d) = floorI y d := Int.mul_ediv_mul_of_pos _ _ hg
theorem ceil_scale (y : Int) {d g : Int} (hg : 0 < g) : ceilI (g * y) (g * d) = ceilI y d := by
  unfold ceilI
  rw [← Int.mul_neg, Int.mul_ediv_mul_of_pos _ _ hg]

/-! ### Lowest terms -/
theorem gcd_dvd (c : Cr) : gcdC c ∣ c.d ∧ gcdC c ∣ c.x ∧ gcdC c ∣ c.z ∧ gcdC c ∣ c.y := by
  unfold gcdC
  have h1 := Int.gcd_dvd_left (Int.gcd (Int.gcd c.d c.x) c.z : Int) c.y
  have h2 := Int.gcd_dvd_left (Int.gcd c.d c.x : Int) c.z
  have h3 := Int.gcd_dvd_left c.d c.x
  exact ⟨Int.dvd_trans (Int.dvd_trans h1 h2) h3, Int.dvd_trans (Int.dvd_trans h1 h2) (Int.gcd_dvd_right _ _), Int.dvd_trans h1 (Int.gcd_dvd_right _ _), Int.gcd_dvd_right _ _⟩
theorem gcd_pos {c : Cr} (h : 0 < c.d) : 0 < gcdC c := by
  have h1 := (gcd_dvd c).1
  have h2 : 0 ≤ gcdC c := by unfold gcdC; omega
  rcases Int.lt_or_le 0 (gcdC c) with h3 | h3
  · exact h3
  · have h4 : gcdC c = 0 := by omega
    rw [h4] at h1
    have := Int.zero_dvd.1 h1
    omega
theorem low_mul {c : Cr} (h : 0 < c.d) : ∃ g, 0 < g ∧ c.x = g * (lowC c).x ∧ c.z = g * (lowC c).z ∧ c.y = g * (lowC c).y ∧ c.d = g * (lowC c).d ∧ 0 < (lowC c).d := by
  obtain ⟨h1, h2, h3, h4⟩ := gcd_dvd c
  have hg := gcd_pos h
  have e4 : c.d = gcdC c * (lowC c).d := (Int.mul_tdiv_cancel' h1).symm
  refine ⟨gcdC c, hg, (Int.mul_tdiv_cancel' h2).symm, (Int.mul_tdiv_cancel' h3).symm, (Int.mul_tdiv_cancel' h4).symm, e4, ?_⟩
  rcases Int.lt_or_le 0 (lowC c).d with h5 | h5
  · exact h5
  · have := Int.mul_nonpos_of_nonneg_of_nonpos (Int.le_of_lt hg) h5
    omega
theorem low_scale (c : Cr) {k : Int} (hk : 0 < k) : lowC ⟨k * c.x, k * c.z, k * c.y, k * c.d⟩ = lowC c := by
  have hg : gcdC ⟨k * c.x, k * c.z, k * c.y, k * c.d⟩ = k * gcdC c := by
    unfold gcdC
    simp only
    obtain ⟨n, rfl⟩ := Int.eq_ofNat_of_zero_le (Int.le_of_lt hk)
    simp only [Int.gcd_mul_left, Int.natAbs_natCast, Int.natCast_mul]
  unfold lowC
  simp only [hg]
  rw [Int.mul_tdiv_mul_of_pos _ _ hk, Int.mul_tdiv_mul_of_pos _ _ hk, Int.mul_tdiv_mul_of_pos _ _ hk, Int.mul_tdiv_mul_of_pos _ _ hk]
theorem raw_scale (t : T3) (p : Sp) (k : Int) : rawT t ⟨k * p.x, k * p.z, k * p.d⟩ = ⟨k * (rawT t p).x, k * (rawT t p).z, k * (rawT t p).y, k * (rawT t p).d⟩ := by
  simp only [rawT]
  congr 1 <;> grind
/-- The same point has the same corner. -/
theorem lift_eq (t : T3) {p q : Sp} (hp : 0 < p.d) (hq : 0 < q.d) (hx : p.x * q.d = q.x * p.d) (hz : p.z * q.d = q.z * p.d) : liftT t p = liftT t q := by
  unfold liftT
  have h1 := raw_scale t p q.d
  have h2 := raw_scale t q p.d
  rw [← low_scale (rawT t p) hq, ← low_scale (rawT t q) hp, ← h1, ← h2, Int.mul_comm q.d p.x, Int.mul_comm q.d p.z, hx, hz, Int.mul_comm q.x p.d, Int.mul_comm q.z p.d, Int.mul_comm q.d p.d]
theorem lift_key {t : T3} {p : Sp} (hs : 0 < t.s) (hp : 0 < p.d) : 0 < (liftT t p).d ∧ (liftT t p).x * p.d = p.x * (liftT t p).d ∧ (liftT t p).z * p.d = p.z * (liftT t p).d := by
  obtain ⟨g, hg, e1, e2, e3, e4, h5⟩ := low_mul (raw_d hs hp)
  refine ⟨h5, ?_, ?_⟩
  · have a1 : p.x * t.s = g * (liftT t p).x := e1
    have a2 : t.s * p.d = g * (liftT t p).d := e4
    have hgs : 0 < g * t.s := Int.mul_pos hg hs
    refine Int.eq_of_mul_eq_mul_left (a := g * t.s) (by omega) ?_
    calc g * t.s * ((liftT t p).x * p.d) = (g * (liftT t p).x) * (t.s * p.d) := by grind
      _ = (p.x * t.s) * (g * (liftT t p).d) := by rw [← a1, a2]
      _ = g * t.s * (p.x * (liftT t p).d) := by grind
  · have a1 : p.z * t.s = g * (liftT t p).z := e2
    have a2 : t.s * p.d = g * (liftT t p).d := e4
    have hgs : 0 < g * t.s := Int.mul_pos hg hs
    refine Int.eq_of_mul_eq_mul_left (a := g * t.s) (by omega) ?_
    calc g * t.s * ((liftT t p).z * p.d) = (g * (liftT t p).z) * (t.s * p.d) := by grind
      _ = (p.z * t.s) * (g * (liftT t p).d) := by rw [← a1, a2]
      _ = g * t.s * (p.z * (liftT t p).d) := by grind
theorem cross_trans {a b c d e f : Int} (hd : 0 < d) (h1 : a * d = c * b) (h2 : c * f = e * d) : a * f = e * b := by
  refine Int.eq_of_mul_eq_mul_left (a := d) (by omega) ?_
  calc d * (a * f) = (a * d) * f := by grind
    _ = (c * f) * b := by rw [h1]; grind
    _ = d * (e * b) := by rw [h2]; grind
/-- Two corners over the same point are the same. -/
theorem lift_inj {t : T3} {p q : Sp} (hs : 0 < t.s) (hp : 0 < p.d) (hq : 0 < q.d) (hx : (liftT t p).x * (liftT t q).d = (liftT t q).x * (liftT t p).d) (hz : (liftT t p).z * (liftT t q).d = (liftT t q).z * (liftT t p).d) : liftT t p = liftT t q := by
  obtain ⟨p1, p2, p3⟩ := lift_key hs hp
  obtain ⟨q1, q2, q3⟩ := lift_key hs hq
  refine lift_eq t hp hq ?_ ?_
  · exact cross_trans p1 p2.symm (cross_trans q1 hx q2)
  · exact cross_trans p1 p3.symm (cross_trans q1 hz q3)
theorem lift_floor {t : T3} {p : Sp} (hs : 0 < t.s) (hp : 0 < p.d) : floorI (liftT t p).y (liftT t p).d = floorI (rawT t p).y (rawT t p).d ∧ ceilI (liftT t p).y (liftT t p).d = ceilI (rawT t p).y (rawT t p).d := by
  obtain ⟨g, hg, e1, e2, e3, e4, h5⟩ := low_mul (raw_d hs hp)
  rw [e3, e4]
  exact ⟨(floor_scale _ hg).symm, (ceil_scale _ hg).symm⟩

/-! ### Least and greatest -/
def minL : List Int → Int
  | [] => 0
  | x :: l => l.foldl min x
def maxL : List Int → Int
  | [] => 0
  | x :: l => l.foldl max x
theorem foldl_min : ∀ (l : List Int) (x : Int), l.foldl min x ≤ x ∧ (∀ y ∈ l, l.foldl min x ≤ y) ∧ (l.foldl min x = x ∨ l.foldl min x ∈ l)
  | [], x => ⟨Int.le_refl _, by simp, .inl rfl⟩
  | y :: l, x => by
    obtain ⟨h1, h2, h3⟩ := foldl_min l (min x y)
    rw [List.foldl_cons]
    refine ⟨by omega, ?_, ?_⟩
    · intro u hu
      rw [List.mem_cons] at hu
      rcases hu with rfl | hu
      · omega
      · exact h2 u hu
    · rcases h3 with h3 | h3
      · rw [h3]
        by_cases h : x ≤ y
        · exact .inl (by omega)
        · exact .inr (by rw [List.mem_cons]; exact .inl (by omega))
      · exact .inr (List.mem_cons_of_mem _ h3)
theorem foldl_max : ∀ (l : List Int) (x : Int), x ≤ l.foldl max x ∧ (∀ y ∈ l, y ≤ l.foldl max x) ∧ (l.foldl max x = x ∨ l.foldl max x ∈ l)
  | [], x => ⟨Int.le_refl _, by simp, .inl rfl⟩
  | y :: l, x => by
    obtain ⟨h1, h2, h3⟩ := foldl_max l (max x y)
    rw [List.foldl_cons]
    refine ⟨by omega, ?_, ?_⟩
    · intro u hu
      rw [List.mem_cons] at hu
      rcases hu with rfl | hu
      · omega
      · exact h2 u hu
    · rcases h3 with h3 | h3
      · rw [h3]
        by_cases h : y ≤ x
        · exact .inl (by omega)
        · exact .inr (by rw [List.mem_cons]; exact .inl (by omega))
      · exact .inr (List.mem_cons_of_mem _ h3)
theorem minL_spec {l : List Int} (h : l ≠ []) : minL l ∈ l ∧ ∀ y ∈ l, minL l ≤ y := by
  cases l with
  | nil => exact absurd rfl h
  | cons x l =>
    obtain ⟨h1, h2, h3⟩ := foldl_min l x
    refine ⟨?_, ?_⟩
    · rw [List.mem_cons]; exact h3
    · intro y hy
      rw [List.mem_cons] at hy
      rcases hy with rfl | hy
      · exact h1
      · exact h2 y hy
theorem maxL_spec {l : List Int} (h : l ≠ []) : maxL l ∈ l ∧ ∀ y ∈ l, y ≤ maxL l := by
  cases l with
  | nil => exact absurd rfl h
  | cons x l =>
    obtain ⟨h1, h2, h3⟩ := foldl_max l x
    refine ⟨?_, ?_⟩
    · rw [List.mem_cons]; exact h3
    · intro y hy
      rw [List.mem_cons] at hy
      rcases hy with rfl | hy
      · exact h1
      · exact h2 y hy
theorem minL_set {l m : List Int} (h : ∀ y, y ∈ l ↔ y ∈ m) : minL l = minL m := by
  by_cases hl : l = []
  · subst hl
    have : m = [] := List.eq_nil_iff_forall_not_mem.2 fun y hy => by have := (h y).2 hy; cases this
    rw [this]
  · have hm : m ≠ [] := fun e => hl (List.eq_nil_iff_forall_not_mem.2 fun y hy => by have := (h y).1 hy; rw [e] at this; cases this)
    obtain ⟨a1, a2⟩ := minL_spec hl
    obtain ⟨b1, b2⟩ := minL_spec hm
    have c1 := a2 _ ((h _).2 b1)
    have c2 := b2 _ ((h _).1 a1)
    omega
theorem maxL_set {l m : List Int} (h : ∀ y, y ∈ l ↔ y ∈ m) : maxL l = maxL m := by
  by_cases hl : l = []
  · subst hl
    have : m = [] := List.eq_nil_iff_forall_not_mem.2 fun y hy => by have := (h y).2 hy; cases this
    rw [this]
  · have hm : m ≠ [] := fun e => hl (List.eq_nil_iff_forall_not_mem.2 fun y hy => by have := (h y).1 hy; rw [e] at this; cases this)
    obtain ⟨a1, a2⟩ := maxL_spec hl
    obtain ⟨b1, b2⟩ := maxL_spec hm
    have c1 := a2 _ ((h _).2 b1)
    have c2 := b2 _ ((h _).1 a1)
    omega
theorem minL_add {l : List Int} (h : l ≠ []) (k : Int) : minL (l.map (· + k)) = minL l + k := by
  obtain ⟨a1, a2⟩ := minL_spec h
  obtain ⟨b1, b2⟩ := minL_spec (l := l.map (· + k)) (by simpa using h)
  obtain ⟨y, hy, e⟩ := List.mem_map.1 b1
  have c1 := a2 y hy
  have c2 := b2 _ (List.mem_map.2 ⟨_, a1, rfl⟩)
  omega
theorem maxL_add {l : List Int} (h : l ≠ []) (k : Int) : maxL (l.map (· + k)) = maxL l + k := by
  obtain ⟨a1, a2⟩ := maxL_spec h
  obtain ⟨b1, b2⟩ := maxL_spec (l := l.map (· + k)) (by simpa using h)
  obtain ⟨y, hy, e⟩ := List.mem_map.1 b1
  have c1 := a2 y hy
  have c2 := b2 _ (List.mem_map.2 ⟨_, a1, rfl⟩)
  omega

/-! ### Heights over a column -/
def floC (c : Cr) : Int := floorI c.y c.d
def ceiC (c : Cr) : Int := ceilI c.y c.d
def overL (l : List Cr) : Int × Int × Bool := if l.isEmpty then (0, 0, false) else (minL (l.map floC), maxL (l.map ceiC), true)
def overR (t : T3) (x z : Int) : Int × Int × Bool := overL ((spotsS t x z).map (rawT t))
theorem isEmpty_set {α : Type} {l m : List α} (h : ∀ y, y ∈ l ↔ y ∈ m) : l.isEmpty = m.isEmpty := by
  cases l with
  | nil =>
    cases m with
    | nil => rfl
    | cons y m => have := (h y).2 (by simp); cases this
  | cons x l =>
    cases m with
    | nil => have := (h x).1 (by simp); cases this
    | cons y m => rfl
theorem overL_set {l m : List Cr} (h : ∀ c, c ∈ l ↔ c ∈ m) : overL l = overL m := by
  have h2 : ∀ (f : Cr → Int) (y : Int), y ∈ l.map f ↔ y ∈ m.map f := by
    intro f y
    simp only [List.mem_map, h]
  unfold overL
  rw [isEmpty_set h, minL_set (h2 floC), maxL_set (h2 ceiC)]
theorem overR_lift {t : T3} (x z : Int) (ht : t.s = flatS t.a t.b t.c) (hs : 0 < t.s) : overL ((spotsS t x z).map (liftT t)) = overR t x z := by
  have h1 : ((spotsS t x z).map (liftT t)).map floC = ((spotsS t x z).map (rawT t)).map floC := by
    rw [List.map_map, List.map_map]
    exact List.map_congr_left fun p hp => (lift_floor hs (spots_in ht hs hp).1).1
  have h2 : ((spotsS t x z).map (liftT t)).map ceiC = ((spotsS t x z).map (rawT t)).map ceiC := by
    rw [List.map_map, List.map_map]
    exact List.map_congr_left fun p hp => (lift_floor hs (spots_in ht hs hp).1).2
  unfold overR overL
  rw [h1, h2, List.isEmpty_map, List.isEmpty_map]
theorem overR_false {t : T3} {x z : Int} (h : (overR t x z).2.2 = false) : overR t x z = (0, 0, false) := by
  unfold overR overL at h ⊢
  split
  · rfl
  · rename_i h'
    rw [if_neg h'] at h
    cases h
theorem overR_true {t : T3} {x z : Int} (h : (overR t x z).2.2 = true) : ∃ p, p ∈ spotsS t x z := by
  unfold overR overL at h
  split at h
  · cases h
  · rename_i h'
    rw [List.isEmpty_map] at h'
    cases hs : spotsS t x z with
    | nil => rw [hs] at h'; simp at h'
    | cons p l => exact ⟨p, by simp⟩
theorem overR_spec {t : T3} {x z : Int} (h : (overR t x z).2.2 = true) :
    (∃ p ∈ spotsS t x z, (overR t x z).1 = floC (rawT t p)) ∧ (∃ p ∈ spotsS t x z, (overR t x z).2.1 = ceiC (rawT t p)) ∧ ∀ p ∈ spotsS t x z, (overR t x z).1 ≤ floC (rawT t p) ∧ ceiC (rawT t p) ≤ (overR t x z).2.1 := by
  obtain ⟨p0, hp0⟩ := overR_true h
  have hne : ((spotsS t x z).map (rawT t)).isEmpty = false := by
    rw [List.isEmpty_map]
    cases hs : spotsS t x z with
    | nil => rw [hs] at hp0; cases hp0
    | cons p l => rfl
  have e : overR t x z = (minL (((spotsS t x z).map (rawT t)).map floC), maxL (((spotsS t x z).map (rawT t)).map ceiC), true) := by
    unfold overR overL
    rw [if_neg (by rw [hne]; decide)]
  have n1 : ∀ f : Cr → Int, ((spotsS t x z).map (rawT t)).map f ≠ [] := by
    intro f hf
    rw [List.map_eq_nil_iff] at hf
    rw [hf] at hne
    cases hne
  obtain ⟨a1, a2⟩ := minL_spec (n1 floC)
  obtain ⟨b1, b2⟩ := maxL_spec (n1 ceiC)
  rw [e]
  simp only
  simp only [List.map_map, List.mem_map, Function.comp_apply] at a1 a2 b1 b2 ⊢
  obtain ⟨p, hp, e1⟩ := a1
  obtain ⟨q, hq, e2⟩ := b1
  refine ⟨⟨p, hp, e1.symm⟩, ⟨q, hq, e2.symm⟩, fun r hr => ⟨a2 _ ⟨r, hr, rfl⟩, b2 _ ⟨r, hr, rfl⟩⟩⟩
/-- Heights lie between the triangle's own; columns lie where the triangle does. -/
theorem over_between {t : T3} {x z : Int} (ht : t.s = flatS t.a t.b t.c) (hs : 0 < t.s) (h : (overR t x z).2.2 = true) :
    (overR t x z).1 ≤ (overR t x z).2.1 ∧ (∀ m, m ≤ t.a.y → m ≤ t.b.y → m ≤ t.c.y → m ≤ (overR t x z).1) ∧ (∀ m, t.a.y ≤ m → t.b.y ≤ m → t.c.y ≤ m → (overR t x z).2.1 ≤ m) := by
  obtain ⟨⟨p, hp, e1⟩, ⟨q, hq, e2⟩, h3⟩ := overR_spec h
  have ip := spots_in ht hs hp
  have iq := spots_in ht hs hq
  refine ⟨?_, ?_, ?_⟩
  · have a := (h3 p hp)
    have b := floor_ceil (rawT t p).y (raw_d hs ip.1)
    have e : floC (rawT t p) ≤ ceiC (rawT t p) := b
    omega
  · intro m h1 h2 h4
    rw [e1]
    exact floor_ge (raw_d hs ip.1) ((raw_between ht ip m).1 h1 h2 h4)
  · intro m h1 h2 h4
    rw [e2]
    exact ceil_le (raw_d hs iq.1) ((raw_between ht iq m).2 h1 h2 h4)
theorem over_cols {t : T3} {x z : Int} (ht : t.s = flatS t.a t.b t.c) (hs : 0 < t.s) (h : (overR t x z).2.2 = true) :
    (∀ m, m ≤ t.a.x → m ≤ t.b.x → m ≤ t.c.x → m - 1 ≤ x) ∧ (∀ m, t.a.x ≤ m → t.b.x ≤ m → t.c.x ≤ m → x ≤ m) ∧
    (∀ m, m ≤ t.a.z → m ≤ t.b.z → m ≤ t.c.z → m - 1 ≤ z) ∧ (∀ m, t.a.z ≤ m → t.b.z ≤ m → t.c.z ≤ m → z ≤ m) := by
  obtain ⟨p, hp⟩ := overR_true h
  obtain ⟨hd, h1, h2, h3, h4⟩ := spots_in ht hs hp
  unfold overS at h4
  rw [Bool.and_eq_true, Bool.and_eq_true, Bool.and_eq_true, decide_eq_true_eq, decide_eq_true_eq, decide_eq_true_eq, decide_eq_true_eq] at h4
  obtain ⟨⟨⟨o1, o2⟩, o3⟩, o4⟩ := h4
  have ed := bary_d t.a t.b t.c p
  have ex := bary_x t.a t.b t.c p
  have ez := bary_z t.a t.b t.c p
  rw [← ht] at ed ex ez
  have cancel : ∀ {u v : Int}, u * (t.s * p.d) ≤ t.s * v → u * p.d ≤ v := by
    intro u v h
    refine Int.le_of_mul_le_mul_left (a := t.s) ?_ hs
    have : t.s * (u * p.d) = u * (t.s * p.d) := by grind
    omega
  have cancel' : ∀ {u v : Int}, t.s * v ≤ u * (t.s * p.d) → v ≤ u * p.d := by
    intro u v h
    refine Int.le_of_mul_le_mul_left (a := t.s) ?_ hs
    have : t.s * (u * p.d) = u * (t.s * p.d) := by grind
    omega
  have lt' : ∀ {u v : Int}, u * p.d ≤ v * p.d → u ≤ v := fun h => Int.le_of_mul_le_mul_right h hd
  refine ⟨fun m a1 a2 a3 => ?_, fun m a1 a2 a3 => ?_, fun m a1 a2 a3 => ?_, fun m a1 a2 a3 => ?_⟩
  · have k := mid_ge a1 a2 a3 h2 h3 h1
    rw [ed, ex] at k
    have := lt' (Int.le_trans (cancel k) o2)
    omega
  · have k := mid_le a1 a2 a3 h2 h3 h1
    rw [ed, ex] at k
    exact lt' (Int.le_trans o1 (cancel' k))
  · have k := mid_ge a1 a2 a3 h2 h3 h1
    rw [ed, ez] at k
    have := lt' (Int.le_trans (cancel k) o4)
    omega
  · have k := mid_le a1 a2 a3 h2 h3 h1
    rw [ed, ez] at k
    exact lt' (Int.le_trans o3 (cancel' k))

/-! ### Turned and moved -/
def rotT (t : T3) : T3 := ⟨t.b, t.c, t.a, t.s⟩
theorem raw_rot {t : T3} (ht : t.s = flatS t.a t.b t.c) (p : Sp) : rawT (rotT t) p = rawT t p := by
  have h1 := bary_y t p ht
  have h2 := bary_y (rotT t) p (by show t.s = flatS t.b t.c t.a; rw [flat_rot]; exact ht)
  have h3 : (rawT (rotT t) p).y = (rawT t p).y := by
    rw [← h1, ← h2]
    show t.b.y * edgeS t.c t.a p + t.c.y * edgeS t.a t.b p + t.a.y * edgeS t.b t.c p = _
    omega
  show Cr.mk _ _ (rawT (rotT t) p).y _ = Cr.mk _ _ (rawT t p).y _
  rw [h3]
  rfl
theorem spots_rot (t : T3) (x z : Int) (p : Sp) : p ∈ spotsS (rotT t) x z ↔ p ∈ spotsS t x z := by
  have hh : holdsT (rotT t) p = holdsT t p := by
    show (decide (0 ≤ edgeS t.b t.c p) && decide (0 ≤ edgeS t.c t.a p) && decide (0 ≤ edgeS t.a t.b p)) = (decide (0 ≤ edgeS t.a t.b p) && decide (0 ≤ edgeS t.b t.c p) && decide (0 ≤ edgeS t.c t.a p))
    generalize decide (0 ≤ edgeS t.a t.b p) = u
    generalize decide (0 ≤ edgeS t.b t.c p) = v
    generalize decide (0 ≤ edgeS t.c t.a p) = w
    revert u v w; decide
  have hv : p ∈ verS (rotT t) ↔ p ∈ verS t := by
    simp only [verS, rotT, List.mem_cons, List.not_mem_nil, or_false]
    constructor
    · rintro (h | h | h) <;> simp [h]
    · rintro (h | h | h) <;> simp [h]
  rw [spots_mem, spots_mem, hh, hv]
  simp only [rotT]
  constructor
  · rintro (h | h | h | h | h) <;> simp [h]
  · rintro (h | h | h | h | h) <;> simp [h]
theorem overR_rot {t : T3} (ht : t.s = flatS t.a t.b t.c) (x z : Int) : overR (rotT t) x z = overR t x z := by
  refine overL_set fun c => ?_
  simp only [List.mem_map, spots_rot, raw_rot ht]
theorem open_rot {a b c : V3} : (openT b c a).2 = (openT a b c).2 ∧ ((openT a b c).2 = true → (openT b c a).1 = rotT (openT a b c).1 ∨ (openT b c a).1 = rotT (rotT (openT a b c).1)) := by
  have hf := flat_rot a b c
  have hv : (vOk b && vOk c && vOk a) = (vOk a && vOk b && vOk c) := by cases vOk a <;> cases vOk b <;> cases vOk c <;> rfl
  unfold openT
  rw [hv, hf]
  split
  · split
    · exact ⟨rfl, fun _ => .inr rfl⟩
    · exact ⟨rfl, fun _ => .inl rfl⟩
  · exact ⟨rfl, fun h => by cases h⟩
def upV (v : V3) (k : Int) : V3 := ⟨v.x, v.y + k, v.z⟩
def upT (t : T3) (k : Int) : T3 := ⟨upV t.a k, upV t.b k, upV t.c k, t.s⟩
theorem spots_up (t : T3) (k x z : Int) : spotsS (upT t k) x z = spotsS t x z := rfl
theorem raw_up (t : T3) (k : Int) (p : Sp) : (rawT (upT t k) p).y = (rawT t p).y + k * (rawT t p).d ∧ (rawT (upT t k) p).d = (rawT t p).d := by
  refine ⟨?_, rfl⟩
  simp only [rawT, nxT, nzT, upT, upV, crossI]
  grind
theorem overR_up {t : T3} (ht : t.s = flatS t.a t.b t.c) (hs : 0 < t.s) (k x z : Int) : (overR (upT t k) x z).2.2 = (overR t x z).2.2 ∧ ((overR t x z).2.2 = true → (overR (upT t k) x z).1 = (overR t x z).1 + k ∧ (overR (upT t k) x z).2.1 = (overR t x z).2.1 + k) := by
  have h1 : ((spotsS (upT t k) x z).map (rawT (upT t k))).map floC = (((spotsS t x z).map (rawT t)).map floC).map (· + k) := by
    rw [spots_up]
    simp only [List.map_map]
    refine List.map_congr_left fun p hp => ?_
    obtain ⟨e1, e2⟩ := raw_up t k p
    have := floor_add (rawT t p).y k (raw_d hs (spots_in ht hs hp).1)
    simp only [Function.comp_apply, floC]
    rw [e1, e2, this]
  have h2 : ((spotsS (upT t k) x z).map (rawT (upT t k))).map ceiC = (((spotsS t x z).map (rawT t)).map ceiC).map (· + k) := by
    rw [spots_up]
    simp only [List.map_map]
    refine List.map_congr_left fun p hp => ?_
    obtain ⟨e1, e2⟩ := raw_up t k p
    have := ceil_add (rawT t p).y k (raw_d hs (spots_in ht hs hp).1)
    simp only [Function.comp_apply, ceiC]
    rw [e1, e2, this]
  have h3 : ((spotsS (upT t k) x z).map (rawT (upT t k))).isEmpty = ((spotsS t x z).map (rawT t)).isEmpty := by rw [spots_up, List.isEmpty_map, List.isEmpty_map]
  unfold overR overL
  rw [h1, h2, h3]
  split
  · exact ⟨rfl, fun h => by cases h⟩
  · rename_i hne
    have n1 : ∀ f : Cr → Int, ((spotsS t x z).map (rawT t)).map f ≠ [] := by
      intro f hf
      rw [List.map_eq_nil_iff] at hf
      rw [hf] at hne
      exact hne rfl
    exact ⟨rfl, fun _ => ⟨minL_add (n1 _) k, maxL_add (n1 _) k⟩⟩
theorem open_up {a b c : V3} {k : Int} (h1 : vOk a = true ∧ vOk b = true ∧ vOk c = true) (h2 : vOk (upV a k) = true ∧ vOk (upV b k) = true ∧ vOk (upV c k) = true) :
    openT (upV a k) (upV b k) (upV c k) = (upT (openT a b c).1 k, (openT a b c).2) := by
  unfold openT
  simp only [h1, h2, Bool.and_self, if_true]
  show (if flatS a b c < 0 then _ else _) = _
  split <;> rfl
end Go.Proofs.YtjiklfffcnfdjaaGreat
