/- Plain law: what the corners and the heights over a column are. -/
import Derived.Test.YtndjljefppbmcaaClpR
namespace Go.Proofs.Ytndjljefppbmcaa

def inC (x z : Int) : Prop := -1 ≤ x ∧ x ≤ 32 ∧ -1 ≤ z ∧ z ≤ 32
instance (x z : Int) : Decidable (inC x z) := by unfold inC; infer_instance
/-- What Corners answers. -/
def CornRes (a b c : V3) (x z : Int) (l : List Cr) (e : Int) : Prop :=
  ((openT a b c).2 = false ∧ l = [] ∧ e = 40) ∨ ((openT a b c).2 = true ∧ ¬ inC x z ∧ l = [] ∧ e = 2) ∨ ((openT a b c).2 = true ∧ inC x z ∧ CornAt (openT a b c).1 x z l ∧ e = 0)
/-- What Over answers. -/
def overE (a b c : V3) (x z : Int) : Int × Int × Bool × Int :=
  if (openT a b c).2 = false then (0, 0, false, 40)
  else if inC x z then ((overR (openT a b c).1 x z).1, (overR (openT a b c).1 x z).2.1, (overR (openT a b c).1 x z).2.2, 0)
  else (0, 0, false, 2)
theorem open_pair {a b c : V3} (h : (openT a b c).2 = true) : openT a b c = ((openT a b c).1, true) := by rw [← h]
theorem corn_overE {a b c : V3} {x z : Int} {l : List Cr} {e : Int} (h : CornRes a b c x z l e) : overE a b c x z = if e ≠ 0 then (0, 0, false, e) else ((overL l).1, (overL l).2.1, (overL l).2.2, 0) := by
  rcases h with ⟨h1, rfl, rfl⟩ | ⟨h1, h2, rfl, rfl⟩ | ⟨h1, h2, h3, rfl⟩
  · unfold overE; rw [if_pos h1]; rfl
  · unfold overE; rw [if_neg (by rw [h1]; decide), if_neg h2]; rfl
  · unfold overE
    rw [if_neg (by rw [h1]; decide), if_pos h2, if_neg (by decide)]
    obtain ⟨h4, h5⟩ := open_flat (open_pair h1)
    rw [corn_over h4 h5 h3]
theorem overL_cons (c : Cr) (l : List Cr) : overL (c :: l) = ((l.map floC).foldl min (floC c), (l.map ceiC).foldl max (ceiC c), true) := rfl
/-- Corners whose heights are small. -/
def CrHigh (c : Cr) : Prop := 0 < c.d ∧ c.d ≤ 70000 ∧ -200000000 ≤ c.y ∧ c.y ≤ 200000000
theorem sides_small {a b : V3} {x z : Int} (ha : vOk a = true) (hb : vOk b = true) (hc : inC x z) : ∀ p ∈ sideS x z a b, -5000 ≤ p.x ∧ p.x ≤ 5000 ∧ -5000 ≤ p.z ∧ p.z ≤ 5000 ∧ 0 ≤ p.d ∧ p.d ≤ 32 := by
  have hv : ∀ v : V3, vOk v = true → 0 ≤ v.x ∧ v.x ≤ 32 ∧ 0 ≤ v.z ∧ v.z ≤ 32 := by
    intro v h
    unfold vOk at h
    simp only [Bool.and_eq_true, decide_eq_true_eq] at h
    omega
  have key : ∀ u v : V3, (0 ≤ u.x ∧ u.x ≤ 32 ∧ 0 ≤ u.z ∧ u.z ≤ 32) → (0 ≤ v.x ∧ v.x ≤ 32 ∧ 0 ≤ v.z ∧ v.z ≤ 32) → ∀ n : Int, -1 ≤ n → n ≤ 33 →
      -5000 ≤ (alongP u v n).1.x ∧ (alongP u v n).1.x ≤ 5000 ∧ -5000 ≤ (alongP u v n).1.z ∧ (alongP u v n).1.z ≤ 5000 ∧ 0 ≤ (alongP u v n).1.d ∧ (alongP u v n).1.d ≤ 32 := by
    intro u v hu hv n h1 h2
    unfold alongP
    simp only
    split
    · simp [zSp]
    · split
      · have m1 := mulB (x := n) (y := -(v.x - u.x)) (K := 40) (L := 32) (by omega) (by omega)
        have m2 := mulB (x := v.z) (y := -(v.x - u.x)) (K := 32) (L := 32) (by omega) (by omega)
        have m3 := mulB (x := u.z - v.z) (y := n - v.x) (K := 32) (L := 40) (by omega) (by omega)
        simp only
        omega
      · have m1 := mulB (x := n) (y := v.x - u.x) (K := 40) (L := 32) (by omega) (by omega)
        have m2 := mulB (x := u.z) (y := v.x - u.x) (K := 32) (L := 32) (by omega) (by omega)
        have m3 := mulB (x := v.z - u.z) (y := n - u.x) (K := 32) (L := 40) (by omega) (by omega)
        simp only
        omega
  intro p hp
  obtain ⟨n, hn, h⟩ := side_mem.1 hp
  unfold inC at hc
  have hn2 : -1 ≤ n ∧ n ≤ 33 := by omega
  rcases h with h | h
  · obtain ⟨_, _, rfl⟩ := keep_mem.1 h
    exact key a b (hv a ha) (hv b hb) n hn2.1 hn2.2
  · obtain ⟨_, _, rfl⟩ := keep_mem.1 h
    have q1 := hv a ha
    have q2 := hv b hb
    have := key (turnV a) (turnV b) ⟨q1.2.2.1, q1.2.2.2, q1.1, q1.2.1⟩ ⟨q2.2.2.1, q2.2.2.2, q2.1, q2.2.1⟩ n hn2.1 hn2.2
    exact ⟨this.2.2.1, this.2.2.2.1, this.1, this.2.1, this.2.2.2.2.1, this.2.2.2.2.2⟩
theorem spots_small {t : T3} {x z : Int} (ha : vOk t.a = true) (hb : vOk t.b = true) (hc : vOk t.c = true) (hi : inC x z) : ∀ p ∈ spotsS t x z, SpSmall p := by
  intro p hp
  rcases spots_mem.1 hp with ⟨h, _⟩ | ⟨h, _⟩ | h | h | h
  · unfold inC at hi
    simp only [colS, List.mem_cons, List.not_mem_nil, or_false] at h
    rcases h with rfl | rfl | rfl | rfl <;> (unfold SpSmall; simp only; omega)
  · have hv : ∀ v : V3, vOk v = true → 0 ≤ v.x ∧ v.x ≤ 32 ∧ 0 ≤ v.z ∧ v.z ≤ 32 := by
      intro v h
      unfold vOk at h
      simp only [Bool.and_eq_true, decide_eq_true_eq] at h
      omega
    have h1 := hv _ ha
    have h2 := hv _ hb
    have h3 := hv _ hc
    simp only [verS, List.mem_cons, List.not_mem_nil, or_false] at h
    rcases h with rfl | rfl | rfl <;> (unfold SpSmall; simp only; omega)
  · exact sides_small ha hb hi p h
  · exact sides_small hb hc hi p h
  · exact sides_small hc ha hi p h
theorem corn_high {a b c : V3} {x z : Int} {l : List Cr} {e : Int} (h : CornRes a b c x z l e) (hok : ∀ t, openT a b c = (t, true) → vOk t.a = true ∧ vOk t.b = true ∧ vOk t.c = true ∧ 0 < t.s ∧ t.s ≤ 2048) : ∀ k ∈ l, CrHigh k := by
  rcases h with ⟨_, rfl, _⟩ | ⟨_, _, rfl, _⟩ | ⟨h1, h2, h3, _⟩
  · intro k hk; cases hk
  · intro k hk; cases hk
  · intro k hk
    obtain ⟨p, hp, rfl⟩ := List.mem_map.1 ((h3.2 k).1 hk)
    obtain ⟨o1, o2, o3, o4, o5⟩ := hok _ (open_pair h1)
    obtain ⟨f1, f2⟩ := open_flat (open_pair h1)
    have hin := spots_in f1 f2 hp
    obtain ⟨s1, s2, s3, s4, s5, s6⟩ := lift_small ⟨o4, o5⟩ (spots_small o1 o2 o3 h2 p hp) hin.1
    obtain ⟨g, hg, e1, e2, e3, e4, h5⟩ := low_mul (raw_d f2 hin.1)
    have hv : ∀ v : V3, vOk v = true → -2048 ≤ v.y ∧ v.y ≤ 2048 := by
      intro v h
      unfold vOk at h
      simp only [Bool.and_eq_true, decide_eq_true_eq] at h
      omega
    have y1 := (raw_between f1 hin (-2048)).1 (hv _ o1).1 (hv _ o2).1 (hv _ o3).1
    have y2 := (raw_between f1 hin 2048).2 (hv _ o1).2 (hv _ o2).2 (hv _ o3).2
    have z1 : -2048 * (liftT (openT a b c).1 p).d ≤ (liftT (openT a b c).1 p).y := by
      refine Int.le_of_mul_le_mul_left (a := g) ?_ hg
      have q : g * (-2048 * (liftT (openT a b c).1 p).d) = -2048 * (g * (liftT (openT a b c).1 p).d) := by grind
      rw [q]
      show -2048 * (g * (lowC (rawT (openT a b c).1 p)).d) ≤ g * (lowC (rawT (openT a b c).1 p)).y
      rw [← e4, ← e3]
      exact y1
    have z2 : (liftT (openT a b c).1 p).y ≤ 2048 * (liftT (openT a b c).1 p).d := by
      refine Int.le_of_mul_le_mul_left (a := g) ?_ hg
      have q : g * (2048 * (liftT (openT a b c).1 p).d) = 2048 * (g * (liftT (openT a b c).1 p).d) := by grind
      rw [q]
      show g * (lowC (rawT (openT a b c).1 p)).y ≤ 2048 * (g * (lowC (rawT (openT a b c).1 p)).d)
      rw [← e4, ← e3]
      exact y2
    unfold CrHigh
    omega
end Go.Proofs.Ytndjljefppbmcaa
