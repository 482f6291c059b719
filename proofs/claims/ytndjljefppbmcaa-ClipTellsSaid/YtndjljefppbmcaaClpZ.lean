/- Plain law: heights lie between the triangle's own; neighbours meet; turned and moved triangles. -/
import Derived.Test.YtndjljefppbmcaaClpT
namespace Go.Proofs.Ytndjljefppbmcaa

/-- What Columns answers. -/
def colsE (a b c : V3) : Int × Int × Int × Int × Int :=
  if (openT a b c).2 = false then (0, 0, 0, 0, 40)
  else (min (min a.x b.x) c.x - 1, min (min a.z b.z) c.z - 1, max (max a.x b.x) c.x, max (max a.z b.z) c.z, 0)
theorem open_perm {a b c : V3} (h : (openT a b c).2 = true) : (∃ s, (openT a b c).1 = ⟨a, b, c, s⟩) ∨ (∃ s, (openT a b c).1 = ⟨a, c, b, s⟩) := by
  unfold openT at h ⊢
  split
  · split
    · exact .inr ⟨_, rfl⟩
    · exact .inl ⟨_, rfl⟩
  · rename_i h1
    rw [if_neg h1] at h
    cases h
theorem overE_ok {a b c : V3} {x z : Int} (h : (overE a b c x z).2.2.2 = 0) : (openT a b c).2 = true ∧ inC x z ∧ overE a b c x z = ((overR (openT a b c).1 x z).1, (overR (openT a b c).1 x z).2.1, (overR (openT a b c).1 x z).2.2, 0) := by
  unfold overE at h ⊢
  split
  · rename_i h1
    rw [if_pos h1] at h
    cases h
  · rename_i h1
    rw [if_neg h1] at h
    split
    · rename_i h2
      exact ⟨by simpa using h1, h2, rfl⟩
    · rename_i h2
      rw [if_neg h2] at h
      cases h
theorem overE_bad {a b c : V3} {x z : Int} (h : (overE a b c x z).2.2.2 ≠ 0) : overE a b c x z = (0, 0, false, (overE a b c x z).2.2.2) := by
  unfold overE at h ⊢
  split
  · rfl
  · rename_i h1
    rw [if_neg h1] at h
    split
    · rename_i h2
      rw [if_pos h2] at h
      exact absurd rfl h
    · rfl
theorem overE_no {a b c : V3} {x z : Int} (h : (overE a b c x z).2.2.1 = false) : (overE a b c x z).1 = 0 ∧ (overE a b c x z).2.1 = 0 := by
  by_cases h0 : (overE a b c x z).2.2.2 = 0
  · obtain ⟨h1, h2, h3⟩ := overE_ok h0
    rw [h3] at h
    have := overR_false h
    rw [h3, this]
    exact ⟨rfl, rfl⟩
  · rw [overE_bad h0]
    exact ⟨rfl, rfl⟩
theorem between_facts {a b c : V3} {x z lo hi : Int} (h : overE a b c x z = (lo, hi, true, 0)) :
    inC x z ∧ lo ≤ hi ∧ min (min a.y b.y) c.y ≤ lo ∧ hi ≤ max (max a.y b.y) c.y ∧ min (min a.x b.x) c.x - 1 ≤ x ∧ x ≤ max (max a.x b.x) c.x ∧ min (min a.z b.z) c.z - 1 ≤ z ∧ z ≤ max (max a.z b.z) c.z := by
  obtain ⟨h1, h2, h3⟩ := overE_ok (by rw [h] : (overE a b c x z).2.2.2 = 0)
  rw [h] at h3
  simp only [Prod.mk.injEq, and_true] at h3
  obtain ⟨e1, e2, e3⟩ := h3
  obtain ⟨f1, f2⟩ := open_flat (open_pair h1)
  obtain ⟨b1, b2, b3⟩ := over_between f1 f2 e3.symm
  obtain ⟨c1, c2, c3, c4⟩ := over_cols f1 f2 e3.symm
  rw [← e1, ← e2] at b1
  rw [← e1] at b2
  rw [← e2] at b3
  refine ⟨h2, b1, ?_⟩
  rcases open_perm h1 with ⟨s, hs⟩ | ⟨s, hs⟩
  · rw [hs] at b2 b3 c1 c2 c3 c4
    simp only at b2 b3 c1 c2 c3 c4
    exact ⟨b2 _ (by omega) (by omega) (by omega), b3 _ (by omega) (by omega) (by omega), c1 _ (by omega) (by omega) (by omega), c2 _ (by omega) (by omega) (by omega), c3 _ (by omega) (by omega) (by omega), c4 _ (by omega) (by omega) (by omega)⟩
  · rw [hs] at b2 b3 c1 c2 c3 c4
    simp only at b2 b3 c1 c2 c3 c4
    exact ⟨b2 _ (by omega) (by omega) (by omega), b3 _ (by omega) (by omega) (by omega), c1 _ (by omega) (by omega) (by omega), c2 _ (by omega) (by omega) (by omega), c3 _ (by omega) (by omega) (by omega), c4 _ (by omega) (by omega) (by omega)⟩
theorem corn_between {a b c : V3} {x z : Int} {l : List Cr} {e lo hi : Int} (h : CornRes a b c x z l e) (ho : overE a b c x z = (lo, hi, true, 0)) : e = 0 ∧ ∀ k ∈ l, lo ≤ floC k ∧ floC k ≤ ceiC k ∧ ceiC k ≤ hi := by
  obtain ⟨h1, h2, h3⟩ := overE_ok (by rw [ho] : (overE a b c x z).2.2.2 = 0)
  rw [ho] at h3
  simp only [Prod.mk.injEq, and_true] at h3
  obtain ⟨e1, e2, e3⟩ := h3
  rcases h with ⟨g1, _⟩ | ⟨_, g2, _⟩ | ⟨_, _, g3, rfl⟩
  · rw [h1] at g1; cases g1
  · exact absurd h2 g2
  · refine ⟨rfl, fun k hk => ?_⟩
    obtain ⟨f1, f2⟩ := open_flat (open_pair h1)
    obtain ⟨p, hp, rfl⟩ := List.mem_map.1 ((g3.2 k).1 hk)
    have hin := spots_in f1 f2 hp
    obtain ⟨q1, q2⟩ := lift_floor f2 hin.1
    have q3 := (overR_spec e3.symm).2.2 p hp
    have q4 := floor_ceil (liftT (openT a b c).1 p).y (lift_key f2 hin.1).1
    unfold floC ceiC at *
    rw [← e1, ← e2] at q3
    rw [q1, q2] at q4 ⊢
    exact ⟨q3.1, q4, q3.2⟩
/-- A corner of both columns: their heights meet. -/
theorem corn_meet {a b c : V3} {x z : Int} {l m : List Cr} {e f lo hi p q : Int} (h1 : CornRes a b c x z l e) (h2 : CornRes a b c (x + 1) z m f) (o1 : overE a b c x z = (lo, hi, true, 0)) (o2 : overE a b c (x + 1) z = (p, q, true, 0)) :
    ∀ k ∈ l, k ∈ m → p ≤ hi ∧ lo ≤ q := by
  intro k hk hk2
  have a1 := (corn_between h1 o1).2 k hk
  have a2 := (corn_between h2 o2).2 k hk2
  omega

/-! ### Turned, flat, moved -/
theorem overE_rot (a b c : V3) (x z : Int) : overE b c a x z = overE a b c x z := by
  obtain ⟨h1, h2⟩ := open_rot (a := a) (b := b) (c := c)
  unfold overE
  rw [h1]
  cases h : (openT a b c).2 with
  | false => rfl
  | true =>
    obtain ⟨f1, _⟩ := open_flat (open_pair h)
    have e : overR (openT b c a).1 x z = overR (openT a b c).1 x z := by
      rcases h2 h with e | e
      · rw [e, overR_rot f1]
      · rw [e, overR_rot (t := rotT (openT a b c).1) (by show (openT a b c).1.s = flatS (openT a b c).1.b (openT a b c).1.c (openT a b c).1.a; rw [flat_rot]; exact f1), overR_rot f1]
    rw [e]
theorem overE_flat {a b c : V3} {x z lo hi : Int} (h : overE a b c x z = (lo, hi, true, 0)) (h1 : a.y = b.y) (h2 : b.y = c.y) : lo = a.y ∧ hi = lo := by
  have := between_facts h
  omega
theorem overE_up {a b c : V3} {x z k : Int} (h1 : vOk a = true ∧ vOk b = true ∧ vOk c = true) (h2 : vOk (upV a k) = true ∧ vOk (upV b k) = true ∧ vOk (upV c k) = true) :
    (overE (upV a k) (upV b k) (upV c k) x z).2.2.1 = (overE a b c x z).2.2.1 ∧ (overE (upV a k) (upV b k) (upV c k) x z).2.2.2 = (overE a b c x z).2.2.2 ∧
    ((overE a b c x z).2.2.1 = true → (overE (upV a k) (upV b k) (upV c k) x z).1 = (overE a b c x z).1 + k ∧ (overE (upV a k) (upV b k) (upV c k) x z).2.1 = (overE a b c x z).2.1 + k) := by
  have ho := open_up h1 h2
  unfold overE
  rw [ho]
  cases h : (openT a b c).2 with
  | false => exact ⟨rfl, rfl, fun h => by cases h⟩
  | true =>
    obtain ⟨f1, f2⟩ := open_flat (open_pair h)
    obtain ⟨u1, u2⟩ := overR_up f1 f2 k x z
    have ht : ¬ (true = false) := by decide
    by_cases hc : inC x z
    · simp only [if_neg ht, if_pos hc]
      exact ⟨u1, trivial, u2⟩
    · simp only [if_neg ht, if_neg hc]
      exact ⟨trivial, trivial, fun h => by cases h⟩
end Go.Proofs.Ytndjljefppbmcaa
