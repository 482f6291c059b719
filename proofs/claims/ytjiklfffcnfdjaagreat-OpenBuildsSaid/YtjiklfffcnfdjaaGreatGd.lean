/- Plain law: corners in order, each once. -/
import Derived.Test.YtjiklfffcnfdjaaGreatClpQ
import Derived.Test.YtjiklfffcnfdjaaGreatGc
namespace Go.Proofs.YtjiklfffcnfdjaaGreat
open Go.Sort

def xR (c : Cr) : Rt := ⟨c.x, c.d⟩
def zR (c : Cr) : Rt := ⟨c.z, c.d⟩
def orD (u v : Int) : Int := if u ≠ 0 then u else v
def cmpCr (c d : Cr) : Int := orD (cmpR (xR c) (xR d)) (cmpR (zR c) (zR d))
/-- One corner comes ahead of another one. -/
def crLt (c d : Cr) : Prop := ltR (xR c) (xR d) ∨ (leR (xR c) (xR d) ∧ leR (xR d) (xR c) ∧ ltR (zR c) (zR d))
theorem cmpCr_neg {c d : Cr} : cmpCr c d < 0 ↔ crLt c d := by
  unfold cmpCr orD crLt
  by_cases h1 : cmpR (xR c) (xR d) = 0
  · have h2 := cmpR_zero.1 h1
    have h3 : ¬ ltR (xR c) (xR d) := not_ltR.2 h2.2
    rw [if_neg (fun h => h h1), cmpR_neg]
    refine ⟨fun h => .inr ⟨h2.1, h2.2, h⟩, ?_⟩
    rintro (h | ⟨_, _, h⟩)
    · exact absurd h h3
    · exact h
  · rw [if_pos h1, cmpR_neg]
    constructor
    · exact .inl
    · rintro (h | ⟨h2, h3, _⟩)
      · exact h
      · exact absurd (cmpR_zero.2 ⟨h2, h3⟩) h1
/-- A corner that is small. -/
def CrSmall (c : Cr) : Prop := -12000000 ≤ c.x ∧ c.x ≤ 12000000 ∧ -12000000 ≤ c.z ∧ c.z ≤ 12000000 ∧ 0 < c.d ∧ c.d ≤ 70000
abbrev CrK := {c : Cr // CrSmall c}
instance : Inhabited CrK := ⟨⟨⟨0, 0, 0, 1⟩, by unfold CrSmall; simp⟩⟩
def cmpCrK (c d : CrK) : Int := cmpCr c.1 d.1
theorem ltCrK (c d : CrK) : ltOf cmpCrK c d = true ↔ crLt c.1 d.1 := by
  unfold ltOf cmpCrK
  rw [decide_eq_true_eq, cmpCr_neg]
theorem ltCrK_false (c d : CrK) : ltOf cmpCrK c d = false ↔ ¬ crLt c.1 d.1 := by
  rw [← ltCrK]; simp
theorem crLt_irrefl (c : Cr) : ¬ crLt c c := by
  rintro (h | ⟨_, _, h⟩)
  · exact Int.lt_irrefl _ h
  · exact Int.lt_irrefl _ h
theorem crLt_trans {c d e : Cr} (hc : 0 < c.d) (hd : 0 < d.d) (he : 0 < e.d) (h1 : crLt c d) (h2 : crLt d e) : crLt c e := by
  rcases h1 with h1 | ⟨a1, a2, a3⟩
  · rcases h2 with h2 | ⟨b1, b2, b3⟩
    · exact .inl (ltR_leR hc hd he h1 (ltR_le h2))
    · exact .inl (ltR_leR hc hd he h1 b1)
  · rcases h2 with h2 | ⟨b1, b2, b3⟩
    · exact .inl (leR_ltR hc hd he a1 h2)
    · exact .inr ⟨leR_trans hc hd he a1 b1, leR_trans he hd hc b2 a2, ltR_leR hc hd he a3 (ltR_le b3)⟩
theorem not_crLt {c d : Cr} : ¬ crLt c d ↔ leR (xR d) (xR c) ∧ (leR (xR c) (xR d) → leR (zR d) (zR c)) := by
  unfold crLt
  rw [not_or, not_ltR]
  constructor
  · rintro ⟨h1, h2⟩
    exact ⟨h1, fun h => not_ltR.1 fun h3 => h2 ⟨h, h1, h3⟩⟩
  · rintro ⟨h1, h2⟩
    exact ⟨h1, fun ⟨a, _, b⟩ => not_ltR.2 (h2 a) b⟩
theorem crLt_ntrans {c d e : Cr} (hc : 0 < c.d) (hd : 0 < d.d) (he : 0 < e.d) (h1 : ¬ crLt c d) (h2 : ¬ crLt d e) : ¬ crLt c e := by
  rw [not_crLt] at *
  refine ⟨leR_trans he hd hc h2.1 h1.1, fun h => ?_⟩
  have a := h1.2 (leR_trans hc he hd h h2.1)
  have b := h2.2 (leR_trans hd hc he h1.1 h)
  exact leR_trans he hd hc b a
theorem swoCrK : SWO (ltOf cmpCrK) where
  irrefl x := by rw [ltCrK_false]; exact crLt_irrefl _
  trans x y z h1 h2 := by
    rw [ltCrK] at *
    exact crLt_trans x.2.2.2.2.2.1 y.2.2.2.2.2.1 z.2.2.2.2.2.1 h1 h2
  ntrans x y z h1 h2 := by
    rw [ltCrK_false] at *
    exact crLt_ntrans x.2.2.2.2.2.1 y.2.2.2.2.2.1 z.2.2.2.2.2.1 h1 h2

/-! ### Each once -/
/-- What is not the same as the one ahead, behind one that is kept. -/
def dedC : Cr → List Cr → List Cr
  | _, [] => []
  | c, d :: l => if d = c then dedC d l else d :: dedC d l
def compC : List Cr → List Cr
  | [] => []
  | c :: l => c :: dedC c l
theorem dedC_mem : ∀ (l : List Cr) (c e : Cr), e ∈ l → e = c ∨ e ∈ dedC c l
  | d :: l, c, e, h => by
    rw [List.mem_cons] at h
    unfold dedC
    split
    · rename_i hd
      subst hd
      rcases h with rfl | h
      · exact .inl rfl
      · exact dedC_mem l d e h
    · rcases h with rfl | h
      · exact .inr (by simp)
      · rcases dedC_mem l d e h with rfl | h
        · exact .inr (by simp)
        · exact .inr (List.mem_cons_of_mem _ h)
theorem dedC_sub : ∀ (l : List Cr) (c e : Cr), e ∈ dedC c l → e ∈ l
  | d :: l, c, e, h => by
    unfold dedC at h
    split at h
    · exact List.mem_cons_of_mem _ (dedC_sub l d e h)
    · rw [List.mem_cons] at h
      rcases h with rfl | h
      · simp
      · exact List.mem_cons_of_mem _ (dedC_sub l d e h)
theorem compC_mem (l : List Cr) (e : Cr) : e ∈ compC l ↔ e ∈ l := by
  cases l with
  | nil => rfl
  | cons c l =>
    unfold compC
    rw [List.mem_cons, List.mem_cons]
    constructor
    · rintro (h | h)
      · exact .inl h
      · exact .inr (dedC_sub l c e h)
    · rintro (h | h)
      · exact .inl h
      · exact dedC_mem l c e h
theorem dedC_sorted : ∀ (l : List Cr) (c : Cr), (∀ e ∈ c :: l, 0 < e.d) → (c :: l).Pairwise (fun p q => ¬ crLt q p) → (∀ p ∈ c :: l, ∀ q ∈ c :: l, ¬ crLt p q → ¬ crLt q p → p = q) →
    (c :: dedC c l).Pairwise crLt
  | [], c, _, _, _ => by simp [dedC]
  | d :: l, c, hpos, hs, hk => by
    have hs' := (List.pairwise_cons.1 hs).2
    have hcd := (List.pairwise_cons.1 hs).1
    have ih := dedC_sorted l d (fun e he => hpos e (List.mem_cons_of_mem _ he)) hs' (fun p hp q hq => hk p (List.mem_cons_of_mem _ hp) q (List.mem_cons_of_mem _ hq))
    unfold dedC
    split
    · rename_i h
      subst h
      exact ih
    · rename_i h
      rw [List.pairwise_cons]
      refine ⟨fun e he => ?_, ih⟩
      have hlt : crLt c d := by
        refine Classical.byContradiction fun h1 => h ?_
        exact (hk c (by simp) d (by simp) h1 (hcd d (by simp))).symm
      rw [List.mem_cons] at he
      rcases he with rfl | he
      · exact hlt
      · have h2 := (List.pairwise_cons.1 ih).1 e he
        exact crLt_trans (hpos c (by simp)) (hpos d (by simp)) (hpos e (List.mem_cons_of_mem _ (List.mem_cons_of_mem _ (dedC_sub l d e he)))) hlt h2
theorem compC_sorted {l : List Cr} (hpos : ∀ e ∈ l, 0 < e.d) (hs : l.Pairwise (fun p q => ¬ crLt q p)) (hk : ∀ p ∈ l, ∀ q ∈ l, ¬ crLt p q → ¬ crLt q p → p = q) : (compC l).Pairwise crLt := by
  cases l with
  | nil => exact List.Pairwise.nil
  | cons c l => exact dedC_sorted l c hpos hs hk
/-- Two lists in order with the same members are the same. -/
theorem sorted_eq : ∀ (l m : List Cr), (∀ e ∈ l, 0 < e.d) → l.Pairwise crLt → m.Pairwise crLt → (∀ e, e ∈ l ↔ e ∈ m) → l = m
  | [], [], _, _, _, _ => rfl
  | [], c :: m, _, _, _, h => by have := (h c).2 (by simp); cases this
  | c :: l, [], _, _, _, h => by have := (h c).1 (by simp); cases this
  | c :: l, d :: m, hp, hl, hm, h => by
    have l1 := List.pairwise_cons.1 hl
    have m1 := List.pairwise_cons.1 hm
    have hpc := hp c (by simp)
    have hpd := hp d ((h d).2 (by simp))
    have e : c = d := by
      have hc := (h c).1 (by simp)
      have hd := (h d).2 (by simp)
      rw [List.mem_cons] at hc hd
      rcases hc with hc | hc
      · exact hc
      · rcases hd with hd | hd
        · exact hd.symm
        · exact absurd (crLt_trans hpc hpd hpc (l1.1 d hd) (m1.1 c hc)) (crLt_irrefl c)
    subst e
    congr 1
    refine sorted_eq l m (fun e he => hp e (List.mem_cons_of_mem _ he)) l1.2 m1.2 fun e => ?_
    constructor
    · intro he
      have := (h e).1 (List.mem_cons_of_mem _ he)
      rw [List.mem_cons] at this
      rcases this with rfl | h2
      · exact absurd (l1.1 e he) (crLt_irrefl e)
      · exact h2
    · intro he
      have := (h e).2 (List.mem_cons_of_mem _ he)
      rw [List.mem_cons] at this
      rcases this with rfl | h2
      · exact absurd (m1.1 e he) (crLt_irrefl e)
      · exact h2

/-! ### The corners over a column -/
/-- What the corners are: in order, each once, those over the spots. -/
def CornAt (t : T3) (x z : Int) (l : List Cr) : Prop := l.Pairwise crLt ∧ ∀ c, c ∈ l ↔ c ∈ (spotsS t x z).map (liftT t)
theorem lift_key_eq {t : T3} {x z : Int} (ht : t.s = flatS t.a t.b t.c) (hs : 0 < t.s) {p q : Cr} (hp : p ∈ (spotsS t x z).map (liftT t)) (hq : q ∈ (spotsS t x z).map (liftT t)) (h1 : ¬ crLt p q) (h2 : ¬ crLt q p) : p = q := by
  obtain ⟨u, hu, rfl⟩ := List.mem_map.1 hp
  obtain ⟨v, hv, rfl⟩ := List.mem_map.1 hq
  rw [not_crLt] at h1 h2
  have hx1 : (liftT t v).x * (liftT t u).d ≤ (liftT t u).x * (liftT t v).d := h1.1
  have hx2 : (liftT t u).x * (liftT t v).d ≤ (liftT t v).x * (liftT t u).d := h2.1
  have hz1 : (liftT t v).z * (liftT t u).d ≤ (liftT t u).z * (liftT t v).d := h1.2 hx2
  have hz2 : (liftT t u).z * (liftT t v).d ≤ (liftT t v).z * (liftT t u).d := h2.2 hx1
  exact lift_inj hs (spots_in ht hs hu).1 (spots_in ht hs hv).1 (by omega) (by omega)
theorem corn_of {t : T3} {x z : Int} (ht : t.s = flatS t.a t.b t.c) (hs : 0 < t.s) {m : List Cr} (hp : m.Perm ((spotsS t x z).map (liftT t))) (hsrt : m.Pairwise (fun p q => ¬ crLt q p)) : CornAt t x z (compC m) := by
  have hm : ∀ c, c ∈ m ↔ c ∈ (spotsS t x z).map (liftT t) := fun c => hp.mem_iff
  refine ⟨compC_sorted ?_ hsrt ?_, fun c => by rw [compC_mem]; exact hm c⟩
  · intro e he
    obtain ⟨u, hu, rfl⟩ := List.mem_map.1 ((hm e).1 he)
    exact (lift_key hs (spots_in ht hs hu).1).1
  · intro p hp' q hq' h1 h2
    exact lift_key_eq ht hs ((hm p).1 hp') ((hm q).1 hq') h1 h2
theorem corn_over {t : T3} {x z : Int} {l : List Cr} (ht : t.s = flatS t.a t.b t.c) (hs : 0 < t.s) (h : CornAt t x z l) : overL l = overR t x z := by
  rw [← overR_lift x z ht hs]
  exact overL_set h.2
/-- Corners are small. -/
theorem lift_small {t : T3} {p : Sp} (hs : 0 < t.s ∧ t.s ≤ 2048) (hp : SpSmall p) (hd : 0 < p.d) : CrSmall (liftT t p) := by
  obtain ⟨g, hg, e1, e2, e3, e4, h5⟩ := low_mul (raw_d hs.1 hd)
  obtain ⟨p1, p2, p3, p4, p5, p6⟩ := hp
  have b : ∀ {u v K : Int}, -K ≤ u ∧ u ≤ K → u = g * v → -K ≤ v ∧ v ≤ K := by
    intro u v K ⟨hu1, hu2⟩ h
    have hg' : 1 ≤ g := by omega
    rcases Int.le_total 0 v with h0 | h0
    · have := Int.mul_le_mul_of_nonneg_right hg' h0
      omega
    · have := Int.mul_le_mul_of_nonpos_right hg' h0
      omega
  have m1 := mulB (x := p.x) (y := t.s) (K := 5000) (L := 2048) (by omega) (by omega)
  have m2 := mulB (x := p.z) (y := t.s) (K := 5000) (L := 2048) (by omega) (by omega)
  have m3 := mulB (x := t.s) (y := p.d) (K := 2048) (L := 32) (by omega) (by omega)
  have c1 := b (u := (rawT t p).x) (K := 12000000) (by show _ ≤ p.x * t.s ∧ p.x * t.s ≤ _; omega) e1
  have c2 := b (u := (rawT t p).z) (K := 12000000) (by show _ ≤ p.z * t.s ∧ p.z * t.s ≤ _; omega) e2
  have c3 := b (u := (rawT t p).d) (K := 70000) (by show _ ≤ t.s * p.d ∧ t.s * p.d ≤ _; omega) e4
  exact ⟨c1.1, c1.2, c2.1, c2.2, h5, c3.2⟩
end Go.Proofs.YtjiklfffcnfdjaaGreat

namespace Go.Proofs.YtjiklfffcnfdjaaGreat

def inC (x z : Int) : Prop := -1 ≤ x ∧ x ≤ 32 ∧ -1 ≤ z ∧ z ≤ 32
instance (x z : Int) : Decidable (inC x z) := by unfold inC; infer_instance
/-- What Corners answers. -/
def CornRes (a b c : V3) (x z : Int) (l : List Cr) (e : Int) : Prop :=
  ((openT a b c).2 = false ∧ l = [] ∧ e = 40) ∨ ((openT a b c).2 = true ∧ ¬ inC x z ∧ l = [] ∧ e = 2) ∨ ((openT a b c).2 = true ∧ inC x z ∧ CornAt (openT a b c).1 x z l ∧ e = 0)
/-- What Over answers. -/
def overE (a b c : V3) (x z : Int) : Int × Int × Bool × Int :=
  if (openT a b c).2 = false then (0, 0, false, 40)
  else if inC x z then ((overR (openT a b c).1 x z).1, (overR (openT a b c).1 x z).2.1, (overR (openT a b c).1 x z).2.2, 0)
  else (0, 0, false, 2)
theorem open_pair {a b c : V3} (h : (openT a b c).2 = true) : openT a b c = ((openT a b c).1, true) := by rw [← h]
theorem corn_overE {a b c : V3} {x z : Int} {l : List Cr} {e : Int} (h : CornRes a b c x z l e) : overE a b c x z = if e ≠ 0 then (0, 0, false, e) else ((overL l).1, (overL l).2.1, (overL l).2.2, 0) := by
  rcases h with ⟨h1, rfl, rfl⟩ | ⟨h1, h2, rfl, rfl⟩ | ⟨h1, h2, h3, rfl⟩
  · unfold overE; rw [if_pos h1]; rfl
  · unfold overE; rw [if_neg (by rw [h1]; decide), if_neg h2]; rfl
  · unfold overE
    rw [if_neg (by rw [h1]; decide), if_pos h2, if_neg (by decide)]
    obtain ⟨h4, h5⟩ := open_flat (open_pair h1)
    rw [corn_over h4 h5 h3]
theorem overL_cons (c : Cr) (l : List Cr) : overL (c :: l) = ((l.map floC).foldl min (floC c), (l.map ceiC).foldl max (ceiC c), true) := rfl
/-- Corners whose heights are small. -/
def CrHigh (c : Cr) : Prop := 0 < c.d ∧ c.d ≤ 70000 ∧ -200000000 ≤ c.y ∧ c.y ≤ 200000000
theorem sides_small {a b : V3} {x z : Int} (ha : vOk a = true) (hb : vOk b = true) (hc : inC x z) : ∀ p ∈ sideS x z a b, -5000 ≤ p.x ∧ p.x ≤ 5000 ∧ -5000 ≤ p.z ∧ p.z ≤ 5000 ∧ 0 ≤ p.d ∧ p.d ≤ 32 := by
  have hv : ∀ v : V3, vOk v = true → 0 ≤ v.x ∧ v.x ≤ 32 ∧ 0 ≤ v.z ∧ v.z ≤ 32 := by
    intro v h
    unfold vOk at h
    simp only [Bool.and_eq_true, decide_eq_true_eq] at h
    omega
  have key : ∀ u v : V3, (0 ≤ u.x ∧ u.x ≤ 32 ∧ 0 ≤ u.z ∧ u.z ≤ 32) → (0 ≤ v.x ∧ v.x ≤ 32 ∧ 0 ≤ v.z ∧ v.z ≤ 32) → ∀ n : Int, -1 ≤ n → n ≤ 33 →
      -5000 ≤ (alongP u v n).1.x ∧ (alongP u v n).1.x ≤ 5000 ∧ -5000 ≤ (alongP u v n).1.z ∧ (alongP u v n).1.z ≤ 5000 ∧ 0 ≤ (alongP u v n).1.d ∧ (alongP u v n).1.d ≤ 32 := by
    intro u v hu hv n h1 h2
    unfold alongP
    simp only
    split
    · simp [zSp]
    · split
      · have m1 := mulB (x := n) (y := -(v.x - u.x)) (K := 40) (L := 32) (by omega) (by omega)
        have m2 := mulB (x := v.z) (y := -(v.x - u.x)) (K := 32) (L := 32) (by omega) (by omega)
        have m3 := mulB (x := u.z - v.z) (y := n - v.x) (K := 32) (L := 40) (by omega) (by omega)
        simp only
        omega
      · have m1 := mulB (x := n) (y := v.x - u.x) (K := 40) (L := 32) (by omega) (by omega)
        have m2 := mulB (x := u.z) (y := v.x - u.x) (K := 32) (L := 32) (by omega) (by omega)
        have m3 := mulB (x := v.z - u.z) (y := n - u.x) (K := 32) (L := 40) (by omega) (by omega)
        simp only
        omega
  intro p hp
  obtain ⟨n, hn, h⟩ := side_mem.1 hp
  unfold inC at hc
  have hn2 : -1 ≤ n ∧ n ≤ 33 := by omega
  rcases h with h | h
  · obtain ⟨_, _, rfl⟩ := keep_mem.1 h
    exact key a b (hv a ha) (hv b hb) n hn2.1 hn2.2
  · obtain ⟨_, _, rfl⟩ := keep_mem.1 h
    have q1 := hv a ha
    have q2 := hv b hb
    have := key (turnV a) (turnV b) ⟨q1.2.2.1, q1.2.2.2, q1.1, q1.2.1⟩ ⟨q2.2.2.1, q2.2.2.2, q2.1, q2.2.1⟩ n hn2.1 hn2.2
    exact ⟨this.2.2.1, this.2.2.2.1, this.1, this.2.1, this.2.2.2.2.1, this.2.2.2.2.2⟩
theorem spots_small {t : T3} {x z : Int} (ha : vOk t.a = true) (hb : vOk t.b = true) (hc : vOk t.c = true) (hi : inC x z) : ∀ p ∈ spotsS t x z, SpSmall p := by
  intro p hp
  rcases spots_mem.1 hp with ⟨h, _⟩ | ⟨h, _⟩ | h | h | h
  · unfold inC at hi
    simp only [colS, List.mem_cons, List.not_mem_nil, or_false] at h
    rcases h with rfl | rfl | rfl | rfl <;> (unfold SpSmall; simp only; omega)
  · have hv : ∀ v : V3, vOk v = true → 0 ≤ v.x ∧ v.x ≤ 32 ∧ 0 ≤ v.z ∧ v.z ≤ 32 := by
      intro v h
      unfold vOk at h
      simp only [Bool.and_eq_true, decide_eq_true_eq] at h
      omega
    have h1 := hv _ ha
    have h2 := hv _ hb
    have h3 := hv _ hc
    simp only [verS, List.mem_cons, List.not_mem_nil, or_false] at h
    rcases h with rfl | rfl | rfl <;> (unfold SpSmall; simp only; omega)
  · exact sides_small ha hb hi p h
  · exact sides_small hb hc hi p h
  · exact sides_small hc ha hi p h
theorem corn_high {a b c : V3} {x z : Int} {l : List Cr} {e : Int} (h : CornRes a b c x z l e) (hok : ∀ t, openT a b c = (t, true) → vOk t.a = true ∧ vOk t.b = true ∧ vOk t.c = true ∧ 0 < t.s ∧ t.s ≤ 2048) : ∀ k ∈ l, CrHigh k := by
  rcases h with ⟨_, rfl, _⟩ | ⟨_, _, rfl, _⟩ | ⟨h1, h2, h3, _⟩
  · intro k hk; cases hk
  · intro k hk; cases hk
  · intro k hk
    obtain ⟨p, hp, rfl⟩ := List.mem_map.1 ((h3.2 k).1 hk)
    obtain ⟨o1, o2, o3, o4, o5⟩ := hok _ (open_pair h1)
    obtain ⟨f1, f2⟩ := open_flat (open_pair h1)
    have hin := spots_in f1 f2 hp
    obtain ⟨s1, s2, s3, s4, s5, s6⟩ := lift_small ⟨o4, o5⟩ (spots_small o1 o2 o3 h2 p hp) hin.1
    obtain ⟨g, hg, e1, e2, e3, e4, h5⟩ := low_mul (raw_d f2 hin.1)
    have hv : ∀ v : V3, vOk v = true → -2048 ≤ v.y ∧ v.y ≤ 2048 := by
      intro v h
      unfold vOk at h
      simp only [Bool.and_eq_true, decide_eq_true_eq] at h
      omega
    have y1 := (raw_between f1 hin (-2048)).1 (hv _ o1).1 (hv _ o2).1 (hv _ o3).1
    have y2 := (raw_between f1 hin 2048).2 (hv _ o1).2 (hv _ o2).2 (hv _ o3).2
    have z1 : -2048 * (liftT (openT a b c).1 p).d ≤ (liftT (openT a b c).1 p).y := by
      refine Int.le_of_mul_le_mul_left (a := g) ?_ hg
      have q : g * (-2048 * (liftT (openT a b c).1 p).d) = -2048 * (g * (liftT (openT a b c).1 p).d) := by grind
      rw [q]
      show -2048 * (g * (lowC (rawT (openT a b c).1 p)).d) ≤ g * (lowC (rawT (openT a b c).1 p)).y
      rw [← e4, ← e3]
      exact y1
    have z2 : (liftT (openT a b c).1 p).y ≤ 2048 * (liftT (openT a b c).1 p).d := by
      refine Int.le_of_mul_le_mul_left (a := g) ?_ hg
      have q : g * (2048 * (liftT (openT a b c).1 p).d) = 2048 * (g * (liftT (openT a b c).1 p).d) := by grind
      rw [q]
      show g * (lowC (rawT (openT a b c).1 p)).y ≤ 2048 * (g * (lowC (rawT (openT a b c).1 p)).d)
      rw [← e4, ← e3]
      exact y2
    unfold CrHigh
    omega
end Go.Proofs.YtjiklfffcnfdjaaGreat

namespace Go.Proofs.YtjiklfffcnfdjaaGreat

/-- What Columns answers. -/
def colsE (a b c : V3) : Int × Int × Int × Int × Int :=
  if (openT a b c).2 = false then (0, 0, 0, 0, 40)
  else (min (min a.x b.x) c.x - 1, min (min a.z b.z) c.z - 1, max (max a.x b.x) c.x, max (max a.z b.z) c.z, 0)
theorem open_perm {a b c : V3} (h : (openT a b c).2 = true) : (∃ s, (openT a b c).1 = ⟨a, b, c, s⟩) ∨ (∃ s, (openT a b c).1 = ⟨a, c, b, s⟩) := by
  unfold openT at h ⊢
  split
  · split
    · exact .inr ⟨_, rfl⟩
    · exact .inl ⟨_, rfl⟩
  · rename_i h1
    rw [if_neg h1] at h
    cases h
theorem overE_ok {a b c : V3} {x z : Int} (h : (overE a b c x z).2.2.2 = 0) : (openT a b c).2 = true ∧ inC x z ∧ overE a b c x z = ((overR (openT a b c).1 x z).1, (overR (openT a b c).1 x z).2.1, (overR (openT a b c).1 x z).2.2, 0) := by
  unfold overE at h ⊢
  split
  · rename_i h1
    rw [if_pos h1] at h
    cases h
  · rename_i h1
    rw [if_neg h1] at h
    split
    · rename_i h2
      exact ⟨by simpa using h1, h2, rfl⟩
    · rename_i h2
      rw [if_neg h2] at h
      cases h
theorem overE_bad {a b c : V3} {x z : Int} (h : (overE a b c x z).2.2.2 ≠ 0) : overE a b c x z = (0, 0, false, (overE a b c x z).2.2.2) := by
  unfold overE at h ⊢
  split
  · rfl
  · rename_i h1
    rw [if_neg h1] at h
    split
    · rename_i h2
      rw [if_pos h2] at h
      exact absurd rfl h
    · rfl
theorem overE_no {a b c : V3} {x z : Int} (h : (overE a b c x z).2.2.1 = false) : (overE a b c x z).1 = 0 ∧ (overE a b c x z).2.1 = 0 := by
  by_cases h0 : (overE a b c x z).2.2.2 = 0
  · obtain ⟨h1, h2, h3⟩ := overE_ok h0
    rw [h3] at h
    have := overR_false h
    rw [h3, this]
    exact ⟨rfl, rfl⟩
  · rw [overE_bad h0]
    exact ⟨rfl, rfl⟩
theorem between_facts {a b c : V3} {x z lo hi : Int} (h : overE a b c x z = (lo, hi, true, 0)) :
    inC x z ∧ lo ≤ hi ∧ min (min a.y b.y) c.y ≤ lo ∧ hi ≤ max (max a.y b.y) c.y ∧ min (min a.x b.x) c.x - 1 ≤ x ∧ x ≤ max (max a.x b.x) c.x ∧ min (min a.z b.z) c.z - 1 ≤ z ∧ z ≤ max (max a.z b.z) c.z := by
  obtain ⟨h1, h2, h3⟩ := overE_ok (by rw [h] : (overE a b c x z).2.2.2 = 0)
  rw [h] at h3
  simp only [Prod.mk.injEq, and_true] at h3
  obtain ⟨e1, e2, e3⟩ := h3
  obtain ⟨f1, f2⟩ := open_flat (open_pair h1)
  obtain ⟨b1, b2, b3⟩ := over_between f1 f2 e3.symm
  obtain ⟨c1, c2, c3, c4⟩ := over_cols f1 f2 e3.symm
  rw [← e1, ← e2] at b1
  rw [← e1] at b2
  rw [← e2] at b3
  refine ⟨h2, b1, ?_⟩
  rcases open_perm h1 with ⟨s, hs⟩ | ⟨s, hs⟩
  · rw [hs] at b2 b3 c1 c2 c3 c4
    simp only at b2 b3 c1 c2 c3 c4
    exact ⟨b2 _ (by omega) (by omega) (by omega), b3 _ (by omega) (by omega) (by omega), c1 _ (by omega) (by omega) (by omega), c2 _ (by omega) (by omega) (by omega), c3 _ (by omega) (by omega) (by omega), c4 _ (by omega) (by omega) (by omega)⟩
  · rw [hs] at b2 b3 c1 c2 c3 c4
    simp only at b2 b3 c1 c2 c3 c4
    exact ⟨b2 _ (by omega) (by omega) (by omega), b3 _ (by omega) (by omega) (by omega), c1 _ (by omega) (by omega) (by omega), c2 _ (by omega) (by omega) (by omega), c3 _ (by omega) (by omega) (by omega), c4 _ (by omega) (by omega) (by omega)⟩
theorem corn_between {a b c : V3} {x z : Int} {l : List Cr} {e lo hi : Int} (h : CornRes a b c x z l e) (ho : overE a b c x z = (lo, hi, true, 0)) : e = 0 ∧ ∀ k ∈ l, lo ≤ floC k ∧ floC k ≤ ceiC k ∧ ceiC k ≤ hi := by
  obtain ⟨h1, h2, h3⟩ := overE_ok (by rw [ho] : (overE a b c x z).2.2.2 = 0)
  rw [ho] at h3
  simp only [Prod.mk.injEq, and_true] at h3
  obtain ⟨e1, e2, e3⟩ := h3
  rcases h with ⟨g1, _⟩ | ⟨_, g2, _⟩ | ⟨_, _, g3, rfl⟩
  · rw [h1] at g1; cases g1
  · exact absurd h2 g2
  · refine ⟨rfl, fun k hk => ?_⟩
    obtain ⟨f1, f2⟩ := open_flat (open_pair h1)
    obtain ⟨p, hp, rfl⟩ := List.mem_map.1 ((g3.2 k).1 hk)
    have hin := spots_in f1 f2 hp
    obtain ⟨q1, q2⟩ := lift_floor f2 hin.1
    have q3 := (overR_spec e3.symm).2.2 p hp
    have q4 := floor_ceil (liftT (openT a b c).1 p).y (lift_key f2 hin.1).1
    unfold floC ceiC at *
    rw [← e1, ← e2] at q3
    rw [q1, q2] at q4 ⊢
    exact ⟨q3.1, q4, q3.2⟩
/-- A corner of both columns: their heights meet. -/
theorem corn_meet {a b c : V3} {x z : Int} {l m : List Cr} {e f lo hi p q : Int} (h1 : CornRes a b c x z l e) (h2 : CornRes a b c (x + 1) z m f) (o1 : overE a b c x z = (lo, hi, true, 0)) (o2 : overE a b c (x + 1) z = (p, q, true, 0)) :
    ∀ k ∈ l, k ∈ m → p ≤ hi ∧ lo ≤ q := by
  intro k hk hk2
  have a1 := (corn_between h1 o1).2 k hk
  have a2 := (corn_between h2 o2).2 k hk2
  omega

/-! ### Turned, flat, moved -/
theorem overE_rot (a b c : V3) (x z : Int) : overE b c a x z = overE a b c x z := by
  obtain ⟨h1, h2⟩ := open_rot (a := a) (b := b) (c := c)
  unfold overE
  rw [h1]
  cases h : (openT a b c).2 with
  | false => rfl
  | true =>
    obtain ⟨f1, _⟩ := open_flat (open_pair h)
    have e : overR (openT b c a).1 x z = overR (openT a b c).1 x z := by
      rcases h2 h with e | e
      · rw [e, overR_rot f1]
      · rw [e, overR_rot (t := rotT (openT a b c).1) (by show (openT a b c).1.s = flatS (openT a b c).1.b (openT a b c).1.c (openT a b c).1.a; rw [flat_rot]; exact f1), overR_rot f1]
    rw [e]
theorem overE_flat {a b c : V3} {x z lo hi : Int} (h : overE a b c x z = (lo, hi, true, 0)) (h1 : a.y = b.y) (h2 : b.y = c.y) : lo = a.y ∧ hi = lo := by
  have := between_facts h
  omega
theorem overE_up {a b c : V3} {x z k : Int} (h1 : vOk a = true ∧ vOk b = true ∧ vOk c = true) (h2 : vOk (upV a k) = true ∧ vOk (upV b k) = true ∧ vOk (upV c k) = true) :
    (overE (upV a k) (upV b k) (upV c k) x z).2.2.1 = (overE a b c x z).2.2.1 ∧ (overE (upV a k) (upV b k) (upV c k) x z).2.2.2 = (overE a b c x z).2.2.2 ∧
    ((overE a b c x z).2.2.1 = true → (overE (upV a k) (upV b k) (upV c k) x z).1 = (overE a b c x z).1 + k ∧ (overE (upV a k) (upV b k) (upV c k) x z).2.1 = (overE a b c x z).2.1 + k) := by
  have ho := open_up h1 h2
  unfold overE
  rw [ho]
  cases h : (openT a b c).2 with
  | false => exact ⟨rfl, rfl, fun h => by cases h⟩
  | true =>
    obtain ⟨f1, f2⟩ := open_flat (open_pair h)
    obtain ⟨u1, u2⟩ := overR_up f1 f2 k x z
    have ht : ¬ (true = false) := by decide
    by_cases hc : inC x z
    · simp only [if_neg ht, if_pos hc]
      exact ⟨u1, trivial, u2⟩
    · simp only [if_neg ht, if_neg hc]
      exact ⟨trivial, trivial, fun h => by cases h⟩
end Go.Proofs.YtjiklfffcnfdjaaGreat
