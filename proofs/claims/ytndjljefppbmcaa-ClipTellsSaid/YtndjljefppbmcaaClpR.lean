/- Plain law: corners in order, each once. -/
import Derived.Test.YtndjljefppbmcaaClpQ
import Derived.Test.YtndjljefppbmcaaCelQ
namespace Go.Proofs.Ytndjljefppbmcaa
open Go.Sort

def xR (c : Cr) : Rt := ⟨c.x, c.d⟩
def zR (c : Cr) : Rt := ⟨c.z, c.d⟩
def orD (u v : Int) : Int := if u ≠ 0 then u else v
def cmpCr (c d : Cr) : Int := orD (cmpR (xR c) (xR d)) (cmpR (zR c) (zR d))
/-- One corner comes ahead of another one. -/
def crLt (c d : Cr) : Prop := ltR (xR c) (xR d) ∨ (leR (xR c) (xR d) ∧ leR (xR d) (xR c) ∧ ltR (zR c) (zR d))
theorem cmpCr_neg {c d : Cr} : cmpCr c d < 0 ↔ crLt c d := by
  unfold cmpCr orD crLt
  by_cases h1 : cmpR (xR c) (xR d) = 0
  · have h2 := cmpR_zero.1 h1
    have h3 : ¬ ltR (xR c) (xR d) := not_ltR.2 h2.2
    rw [if_neg (fun h => h h1), cmpR_neg]
    refine ⟨fun h => .inr ⟨h2.1, h2.2, h⟩, ?_⟩
    rintro (h | ⟨_, _, h⟩)
    · exact absurd h h3
    · exact h
  · rw [if_pos h1, cmpR_neg]
    constructor
    · exact .inl
    · rintro (h | ⟨h2, h3, _⟩)
      · exact h
      · exact absurd (cmpR_zero.2 ⟨h2, h3⟩) h1
/-- A corner that is small. -/
def CrSmall (c : Cr) : Prop := -12000000 ≤ c.x ∧ c.x ≤ 12000000 ∧ -12000000 ≤ c.z ∧ c.z ≤ 12000000 ∧ 0 < c.d ∧ c.d ≤ 70000
abbrev CrK := {c : Cr // CrSmall c}
instance : Inhabited CrK := ⟨⟨⟨0, 0, 0, 1⟩, by unfold CrSmall; simp⟩⟩
def cmpCrK (c d : CrK) : Int := cmpCr c.1 d.1
theorem ltCrK (c d : CrK) : ltOf cmpCrK c d = true ↔ crLt c.1 d.1 := by
  unfold ltOf cmpCrK
  rw [decide_eq_true_eq, cmpCr_neg]
theorem ltCrK_false (c d : CrK) : ltOf cmpCrK c d = false ↔ ¬ crLt c.1 d.1 := by
  rw [← ltCrK]; simp
theorem crLt_irrefl (c : Cr) : ¬ crLt c c := by
  rintro (h | ⟨_, _, h⟩)
  · exact Int.lt_irrefl _ h
  · exact Int.lt_irrefl _ h
theorem crLt_trans {c d e : Cr} (hc : 0 < c.d) (hd : 0 < d.d) (he : 0 < e.d) (h1 : crLt c d) (h2 : crLt d e) : crLt c e := by
  rcases h1 with h1 | ⟨a1, a2, a3⟩
  · rcases h2 with h2 | ⟨b1, b2, b3⟩
    · exact .inl (ltR_leR hc hd he h1 (ltR_le h2))
    · exact .inl (ltR_leR hc hd he h1 b1)
  · rcases h2 with h2 | ⟨b1, b2, b3⟩
    · exact .inl (leR_ltR hc hd he a1 h2)
    · exact .inr ⟨leR_trans hc hd he a1 b1, leR_trans he hd hc b2 a2, ltR_leR hc hd he a3 (ltR_le b3)⟩
theorem not_crLt {c d : Cr} : ¬ crLt c d ↔ leR (xR d) (xR c) ∧ (leR (xR c) (xR d) → leR (zR d) (zR c)) := by
  unfold crLt
  rw [not_or, not_ltR]
  constructor
  · rintro ⟨h1, h2⟩
    exact ⟨h1, fun h => not_ltR.1 fun h3 => h2 ⟨h, h1, h3⟩⟩
  · rintro ⟨h1, h2⟩
    exact ⟨h1, fun ⟨a, _, b⟩ => not_ltR.2 (h2 a) b⟩
theorem crLt_ntrans {c d e : Cr} (hc : 0 < c.d) (hd : 0 < d.d) (he : 0 < e.d) (h1 : ¬ crLt c d) (h2 : ¬ crLt d e) : ¬ crLt c e := by
  rw [not_crLt] at *
  refine ⟨leR_trans he hd hc h2.1 h1.1, fun h => ?_⟩
  have a := h1.2 (leR_trans hc he hd h h2.1)
  have b := h2.2 (leR_trans hd hc he h1.1 h)
  exact leR_trans he hd hc b a
theorem swoCrK : SWO (ltOf cmpCrK) where
  irrefl x := by rw [ltCrK_false]; exact crLt_irrefl _
  trans x y z h1 h2 := by
    rw [ltCrK] at *
    exact crLt_trans x.2.2.2.2.2.1 y.2.2.2.2.2.1 z.2.2.2.2.2.1 h1 h2
  ntrans x y z h1 h2 := by
    rw [ltCrK_false] at *
    exact crLt_ntrans x.2.2.2.2.2.1 y.2.2.2.2.2.1 z.2.2.2.2.2.1 h1 h2

/-! ### Each once -/
/-- What is not the same as the one ahead, behind one that is kept. -/
def dedC : Cr → List Cr → List Cr
  | _, [] => []
  | c, d :: l => if d = c then dedC d l else d :: dedC d l
def compC : List Cr → List Cr
  | [] => []
  | c :: l => c :: dedC c l
theorem dedC_mem : ∀ (l : List Cr) (c e : Cr), e ∈ l → e = c ∨ e ∈ dedC c l
  | d :: l, c, e, h => by
    rw [List.mem_cons] at h
    unfold dedC
    split
    · rename_i hd
      subst hd
      rcases h with rfl | h
      · exact .inl rfl
      · exact dedC_mem l d e h
    · rcases h with rfl | h
      · exact .inr (by simp)
      · rcases dedC_mem l d e h with rfl | h
        · exact .inr (by simp)
        · exact .inr (List.mem_cons_of_mem _ h)
theorem dedC_sub : ∀ (l : List Cr) (c e : Cr), e ∈ dedC c l → e ∈ l
  | d :: l, c, e, h => by
    unfold dedC at h
    split at h
    · exact List.mem_cons_of_mem _ (dedC_sub l d e h)
    · rw [List.mem_cons] at h
      rcases h with rfl | h
      · simp
      · exact List.mem_cons_of_mem _ (dedC_sub l d e h)
theorem compC_mem (l : List Cr) (e : Cr) : e ∈ compC l ↔ e ∈ l := by
  cases l with
  | nil => rfl
  | cons c l =>
    unfold compC
    rw [List.mem_cons, List.mem_cons]
    constructor
    · rintro (h | h)
      · exact .inl h
      · exact .inr (dedC_sub l c e h)
    · rintro (h | h)
      · exact .inl h
      · exact dedC_mem l c e h
theorem dedC_sorted : ∀ (l : List Cr) (c : Cr), (∀ e ∈ c :: l, 0 < e.d) → (c :: l).Pairwise (fun p q => ¬ crLt q p) → (∀ p ∈ c :: l, ∀ q ∈ c :: l, ¬ crLt p q → ¬ crLt q p → p = q) →
    (c :: dedC c l).Pairwise crLt
  | [], c, _, _, _ => by simp [dedC]
  | d :: l, c, hpos, hs, hk => by
    have hs' := (List.pairwise_cons.1 hs).2
    have hcd := (List.pairwise_cons.1 hs).1
    have ih := dedC_sorted l d (fun e he => hpos e (List.mem_cons_of_mem _ he)) hs' (fun p hp q hq => hk p (List.mem_cons_of_mem _ hp) q (List.mem_cons_of_mem _ hq))
    unfold dedC
    split
    · rename_i h
      subst h
      exact ih
    · rename_i h
      rw [List.pairwise_cons]
      refine ⟨fun e he => ?_, ih⟩
      have hlt : crLt c d := by
        refine Classical.byContradiction fun h1 => h ?_
        exact (hk c (by simp) d (by simp) h1 (hcd d (by simp))).symm
      rw [List.mem_cons] at he
      rcases he with rfl | he
      · exact hlt
      · have h2 := (List.pairwise_cons.1 ih).1 e he
        exact crLt_trans (hpos c (by simp)) (hpos d (by simp)) (hpos e (List.mem_cons_of_mem _ (List.mem_cons_of_mem _ (dedC_sub l d e he)))) hlt h2
theorem compC_sorted {l : List Cr} (hpos : ∀ e ∈ l, 0 < e.d) (hs : l.Pairwise (fun p q => ¬ crLt q p)) (hk : ∀ p ∈ l, ∀ q ∈ l, ¬ crLt p q → ¬ crLt q p → p = q) : (compC l).Pairwise crLt := by
  cases l with
  | nil => exact List.Pairwise.nil
  | cons c l => exact dedC_sorted l c hpos hs hk
/-- Two lists in order with the same members are the same. -/
theorem sorted_eq : ∀ (l m : List Cr), (∀ e ∈ l, 0 < e.d) → l.Pairwise crLt → m.Pairwise crLt → (∀ e, e ∈ l ↔ e ∈ m) → l = m
  | [], [], _, _, _, _ => rfl
  | [], c :: m, _, _, _, h => by have := (h c).2 (by simp); cases this
  | c :: l, [], _, _, _, h => by have := (h c).1 (by simp); cases this
  | c :: l, d :: m, hp, hl, hm, h => by
    have l1 := List.pairwise_cons.1 hl
    have m1 := List.pairwise_cons.1 hm
    have hpc := hp c (by simp)
    have hpd := hp d ((h d).2 (by simp))
    have e : c = d := by
      have hc := (h c).1 (by simp)
      have hd := (h d).2 (by simp)
      rw [List.mem_cons] at hc hd
      rcases hc with hc | hc
      · exact hc
      · rcases hd with hd | hd
        · exact hd.symm
        · exact absurd (crLt_trans hpc hpd hpc (l1.1 d hd) (m1.1 c hc)) (crLt_irrefl c)
    subst e
    congr 1
    refine sorted_eq l m (fun e he => hp e (List.mem_cons_of_mem _ he)) l1.2 m1.2 fun e => ?_
    constructor
    · intro he
      have := (h e).1 (List.mem_cons_of_mem _ he)
      rw [List.mem_cons] at this
      rcases this with rfl | h2
      · exact absurd (l1.1 e he) (crLt_irrefl e)
      · exact h2
    · intro he
      have := (h e).2 (List.mem_cons_of_mem _ he)
      rw [List.mem_cons] at this
      rcases this with rfl | h2
      · exact absurd (m1.1 e he) (crLt_irrefl e)
      · exact h2

/-! ### The corners over a column -/
/-- What the corners are: in order, each once, those over the spots. -/
def CornAt (t : T3) (x z : Int) (l : List Cr) : Prop := l.Pairwise crLt ∧ ∀ c, c ∈ l ↔ c ∈ (spotsS t x z).map (liftT t)
theorem lift_key_eq {t : T3} {x z : Int} (ht : t.s = flatS t.a t.b t.c) (hs : 0 < t.s) {p q : Cr} (hp : p ∈ (spotsS t x z).map (liftT t)) (hq : q ∈ (spotsS t x z).map (liftT t)) (h1 : ¬ crLt p q) (h2 : ¬ crLt q p) : p = q := by
  obtain ⟨u, hu, rfl⟩ := List.mem_map.1 hp
  obtain ⟨v, hv, rfl⟩ := List.mem_map.1 hq
  rw [not_crLt] at h1 h2
  have hx1 : (liftT t v).x * (liftT t u).d ≤ (liftT t u).x * (liftT t v).d := h1.1
  have hx2 : (liftT t u).x * (liftT t v).d ≤ (liftT t v).x * (liftT t u).d := h2.1
  have hz1 : (liftT t v).z * (liftT t u).d ≤ (liftT t u).z * (liftT t v).d := h1.2 hx2
  have hz2 : (liftT t u).z * (liftT t v).d ≤ (liftT t v).z * (liftT t u).d := h2.2 hx1
  exact lift_inj hs (spots_in ht hs hu).1 (spots_in ht hs hv).1 (by omega) (by omega)
theorem corn_of {t : T3} {x z : Int} (ht : t.s = flatS t.a t.b t.c) (hs : 0 < t.s) {m : List Cr} (hp : m.Perm ((spotsS t x z).map (liftT t))) (hsrt : m.Pairwise (fun p q => ¬ crLt q p)) : CornAt t x z (compC m) := by
  have hm : ∀ c, c ∈ m ↔ c ∈ (spotsS t x z).map (liftT t) := fun c => hp.mem_iff
  refine ⟨compC_sorted ?_ hsrt ?_, fun c => by rw [compC_mem]; exact hm c⟩
  · intro e he
    obtain ⟨u, hu, rfl⟩ := List.mem_map.1 ((hm e).1 he)
    exact (lift_key hs (spots_in ht hs hu).1).1
  · intro p hp' q hq' h1 h2
    exact lift_key_eq ht hs ((hm p).1 hp') ((hm q).1 hq') h1 h2
theorem corn_over {t : T3} {x z : Int} {l : List Cr} (ht : t.s = flatS t.a t.b t.c) (hs : 0 < t.s) (h : CornAt t x z l) : overL l = overR t x z := by
  rw [← overR_lift x z ht hs]
  exact overL_set h.2
/-- Corners are small. -/
theorem lift_small {t : T3} {p : Sp} (hs : 0 < t.s ∧ t.s ≤ 2048) (hp : SpSmall p) (hd : 0 < p.d) : CrSmall (liftT t p) := by
  obtain ⟨g, hg, e1, e2, e3, e4, h5⟩ := low_mul (raw_d hs.1 hd)
  obtain ⟨p1, p2, p3, p4, p5, p6⟩ := hp
  have b : ∀ {u v K : Int}, -K ≤ u ∧ u ≤ K → u = g * v → -K ≤ v ∧ v ≤ K := by
    intro u v K ⟨hu1, hu2⟩ h
    have hg' : 1 ≤ g := by omega
    rcases Int.le_total 0 v with h0 | h0
    · have := Int.mul_le_mul_of_nonneg_right hg' h0
      omega
    · have := Int.mul_le_mul_of_nonpos_right hg' h0
      omega
  have m1 := mulB (x := p.x) (y := t.s) (K := 5000) (L := 2048) (by omega) (by omega)
  have m2 := mulB (x := p.z) (y := t.s) (K := 5000) (L := 2048) (by omega) (by omega)
  have m3 := mulB (x := t.s) (y := p.d) (K := 2048) (L := 32) (by omega) (by omega)
  have c1 := b (u := (rawT t p).x) (K := 12000000) (by show _ ≤ p.x * t.s ∧ p.x * t.s ≤ _; omega) e1
  have c2 := b (u := (rawT t p).z) (K := 12000000) (by show _ ≤ p.z * t.s ∧ p.z * t.s ≤ _; omega) e2
  have c3 := b (u := (rawT t p).d) (K := 70000) (by show _ ≤ t.s * p.d ∧ t.s * p.d ≤ _; omega) e4
  exact ⟨c1.1, c1.2, c2.1, c2.2, h5, c3.2⟩
end Go.Proofs.Ytndjljefppbmcaa
