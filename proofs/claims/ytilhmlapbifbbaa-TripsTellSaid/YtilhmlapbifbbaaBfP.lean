/- Plain: the short table, once more: a way more, as many times as there are places. Imports nothing of the dump. -/
import Derived.Test.YtilhmlapbifbbaaGrpP
namespace Go.Proofs.Ytilhmlapbifbbaa
open Go.RowKit

/-- A walk from a: over the places of a list. -/
def wOK (t : List (List Int)) : Nat → List Nat → Prop
  | _, [] => True
  | a, x :: l => 0 ≤ gt t a x ∧ wOK t x l
def wC (t : List (List Int)) : Nat → List Nat → Int
  | _, [] => 0
  | a, x :: l => gt t a x + wC t x l
def wE : Nat → List Nat → Nat
  | a, [] => a
  | _, x :: l => wE x l
theorem wOK_app {t : List (List Int)} : ∀ {a : Nat} {l m : List Nat}, wOK t a (l ++ m) ↔ wOK t a l ∧ wOK t (wE a l) m
  | a, [], m => by simp [wOK, wE]
  | a, x :: l, m => by
    simp only [List.cons_append, wOK, wE]
    rw [wOK_app]
    exact ⟨fun h => ⟨⟨h.1, h.2.1⟩, h.2.2⟩, fun h => ⟨h.1.1, h.1.2, h.2⟩⟩
theorem wC_app {t : List (List Int)} : ∀ {a : Nat} {l m : List Nat}, wC t a (l ++ m) = wC t a l + wC t (wE a l) m
  | a, [], m => by simp [wC, wE]
  | a, x :: l, m => by
    simp only [List.cons_append, wC, wE]
    rw [wC_app]
    omega
theorem wE_app : ∀ {a : Nat} {l m : List Nat}, wE a (l ++ m) = wE (wE a l) m
  | a, [], m => rfl
  | a, x :: l, m => by simp only [List.cons_append, wE]; exact wE_app
theorem wC_nonneg {t : List (List Int)} : ∀ {a : Nat} {l : List Nat}, wOK t a l → 0 ≤ wC t a l
  | a, [], _ => by simp [wC]
  | a, x :: l, h => by
    have := wC_nonneg h.2
    have := h.1
    simp only [wC]
    omega
theorem wE_lt {n : Nat} : ∀ {a : Nat} {l : List Nat}, a < n → (∀ x ∈ l, x < n) → wE a l < n
  | a, [], h, _ => h
  | a, x :: l, _, h => wE_lt (a := x) (l := l) (h x (by simp)) (fun y hy => h y (List.mem_cons_of_mem _ hy))

/-- No place twice is as cheap. -/
theorem walk_short {t : List (List Int)} : ∀ (l : List Nat) (a : Nat), wOK t a l → ∃ m, (a :: m).Nodup ∧ (∀ x ∈ m, x ∈ l) ∧ wOK t a m ∧ wE a m = wE a l ∧ wC t a m ≤ wC t a l
  | [], a, _ => ⟨[], by simp, by simp, trivial, rfl, Int.le_refl _⟩
  | x :: l, a, h => by
    obtain ⟨m, h1, h2, h3, h4, h5⟩ := walk_short l x h.2
    have h0 := h.1
    by_cases ha : a ∈ x :: m
    · by_cases hx : a = x
      · subst hx
        exact ⟨m, h1, fun y hy => List.mem_cons_of_mem _ (h2 y hy), h3, h4, by simp only [wC]; omega⟩
      · have ham : a ∈ m := by
          rcases List.mem_cons.1 ha with e | e
          · exact absurd e hx
          · exact e
        obtain ⟨p, q, rfl⟩ := List.append_of_mem ham
        have h6 := wOK_app.1 h3
        have h7 := wC_nonneg h6.1
        rw [wC_app] at h5
        rw [wE_app] at h4
        simp only [wOK, wC, wE] at h6 h5 h4
        refine ⟨q, ?_, fun y hy => List.mem_cons_of_mem _ (h2 y (by simp [hy])), h6.2.2, h4, ?_⟩
        · have h8 := (List.nodup_cons.1 h1).2
          exact (List.nodup_append.1 h8).2.1
        · have h9 := h6.2.1
          simp only [wC]
          omega
    · exact ⟨x :: m, List.nodup_cons.2 ⟨ha, h1⟩, fun y hy => by
        rcases List.mem_cons.1 hy with e | e
        · simp [e]
        · exact List.mem_cons_of_mem _ (h2 y e), ⟨h0, h3⟩, h4, by simp only [wC]; omega⟩

/-- Each number of the short table is a walk's cost. -/
def Walks (n : Nat) (t s : List (List Int)) : Prop := ∀ a b, a < n → b < n → 0 ≤ gt s a b → ∃ l, (∀ x ∈ l, x < n) ∧ wOK t a l ∧ wE a l = b ∧ wC t a l ≤ gt s a b
theorem walks_upto {t : List (List Int)} (hm : mayT t = true) : ∀ k, k ≤ t.length → Walks t.length t (upto t.length (diag0 t) k)
  | 0, _ => fun a b ha hb h => by
    have hq := (mayT_sq hm).2
    have h1 := (diag0_at hq).2 a b ha hb
    have h2 : gt (upto t.length (diag0 t) 0) a b = gt (diag0 t) a b := rfl
    rw [h2, h1] at h ⊢
    by_cases hab : a = b
    · exact ⟨[], by simp, trivial, hab, by simp [wC, hab]⟩
    · rw [if_neg hab] at h ⊢
      exact ⟨[b], by simpa using hb, ⟨h, trivial⟩, rfl, by simp [wC]⟩
  | k + 1, hk => fun a b ha hb h => by
    have hp := pass_upto hm k (by omega)
    have ih := walks_upto hm k (by omega)
    rw [upto_succ] at h ⊢
    have h1 := (passK_at hp.low (show k < t.length by omega)).2 a b ha hb
    rw [h1] at h ⊢
    unfold fK at h ⊢
    by_cases hbet : bet (upto t.length (diag0 t) k) k a b = true
    · rw [if_pos hbet] at h ⊢
      simp only [bet, Bool.and_eq_true, bne_iff_ne] at hbet
      obtain ⟨⟨h2, h3⟩, _⟩ := hbet
      have l2 := hp.low.low a k ha (by omega)
      have l3 := hp.low.low k b (by omega) hb
      obtain ⟨p, p1, p2, p3, p4⟩ := ih a k ha (by omega) (by omega)
      obtain ⟨q, q1, q2, q3, q4⟩ := ih k b (by omega) hb (by omega)
      refine ⟨p ++ q, fun x hx => ?_, wOK_app.2 ⟨p2, by rw [p3]; exact q2⟩, by rw [wE_app, p3, q3], by rw [wC_app, p3]; omega⟩
      rcases List.mem_append.1 hx with e | e
      · exact p1 x e
      · exact q1 x e
    · rw [if_neg hbet] at h ⊢
      exact ih a b ha hb h

/-- The document's way. -/
def bfStep (t : List (List Int)) (b : Nat) (r : List Int) (c : Nat) : List Int :=
  if r.getD b 0 < 0 ∨ gt t b c < 0 then r else if r.getD c 0 < 0 ∨ r.getD b 0 + gt t b c < r.getD c 0 then r.set c (r.getD b 0 + gt t b c) else r
def bfRowU (t : List (List Int)) (r : List Int) (b k : Nat) : List Int := (List.range k).foldl (bfStep t b) r
def bfRndU (t : List (List Int)) (n : Nat) (r : List Int) (k : Nat) : List Int := (List.range k).foldl (fun r b => bfRowU t r b n) r
def bfIni (n a : Nat) : List Int := (List.replicate n (-1 : Int)).set a 0
def bfU (t : List (List Int)) (n a : Nat) (k : Nat) : List Int := (List.range k).foldl (fun r _ => bfRndU t n r n) (bfIni n a)
def bfT (t : List (List Int)) (k : Nat) : List (List Int) := (List.range k).map fun a => bfU t t.length a t.length
theorem bfRowU_succ (t : List (List Int)) (r : List Int) (b k : Nat) : bfRowU t r b (k + 1) = bfStep t b (bfRowU t r b k) k := by simp [bfRowU, List.range_succ]
theorem bfRndU_succ (t : List (List Int)) (n : Nat) (r : List Int) (k : Nat) : bfRndU t n r (k + 1) = bfRowU t (bfRndU t n r k) k n := by simp [bfRndU, List.range_succ]
theorem bfU_succ (t : List (List Int)) (n a k : Nat) : bfU t n a (k + 1) = bfRndU t n (bfU t n a k) n := by simp [bfU, List.range_succ]
theorem bfT_succ (t : List (List Int)) (k : Nat) : bfT t (k + 1) = bfT t k ++ [bfU t t.length k t.length] := by simp [bfT, List.range_succ]

theorem bfStep_len (t : List (List Int)) (b : Nat) (r : List Int) (c : Nat) : (bfStep t b r c).length = r.length := by unfold bfStep; split; rfl; split; simp; rfl
/-- Where a row is once, it stays or falls. -/
def Falls (n : Nat) (r r' : List Int) : Prop := ∀ c, c < n → 0 ≤ r.getD c 0 → 0 ≤ r'.getD c 0 ∧ r'.getD c 0 ≤ r.getD c 0
theorem Falls.refl (n : Nat) (r : List Int) : Falls n r r := fun _ _ h => ⟨h, Int.le_refl _⟩
theorem Falls.trans {n : Nat} {a b c : List Int} (h : Falls n a b) (k : Falls n b c) : Falls n a c := fun i hi h0 => by
  have h1 := h i hi h0
  have h2 := k i hi h1.1
  omega
theorem getD_set' {r : List Int} {c i : Nat} {x : Int} (hc : c < r.length) : (r.set c x).getD i 0 = if i = c then x else r.getD i 0 := by
  rw [List.getD_eq_getElem?_getD, List.getElem?_set, List.getD_eq_getElem?_getD]
  by_cases h : c = i
  · subst h; simp [hc]
  · rw [if_neg h, if_neg (fun e => h e.symm)]

/-- What is true of a row on its way. -/
structure Bf (n : Nat) (s : List (List Int)) (a m : Nat) (r : List Int) : Prop where
  len : r.length = n
  low : ∀ c, c < n → r.getD c 0 = -1 ∨ (0 ≤ gt s a c ∧ gt s a c ≤ r.getD c 0)
  hi : ∀ c, c < n → r.getD c 0 ≤ 1099511627776 * m
theorem Bf.up {n : Nat} {s : List (List Int)} {a m m' : Nat} {r : List Int} (h : Bf n s a m r) (hm : m ≤ m') : Bf n s a m' r := ⟨h.len, h.low, fun c hc => by have := h.hi c hc; omega⟩
theorem Bf.ge {n : Nat} {s : List (List Int)} {a m : Nat} {r : List Int} (h : Bf n s a m r) {c : Nat} (hc : c < n) : -1 ≤ r.getD c 0 := by
  rcases h.low c hc with e | e <;> omega
theorem bf_step {t : List (List Int)} (hm : mayT t = true) {a b c m : Nat} {r : List Int} (ha : a < t.length) (hb : b < t.length) (hc : c < t.length) (h : Bf t.length (shortP t) a m r) :
    Bf t.length (shortP t) a (m + 1) (bfStep t b r c) ∧ Falls t.length r (bfStep t b r c) ∧ (0 ≤ r.getD b 0 → 0 ≤ gt t b c → 0 ≤ (bfStep t b r c).getD c 0 ∧ (bfStep t b r c).getD c 0 ≤ r.getD b 0 + gt t b c) := by
  have hp := pass_short hm
  have hcl : c < r.length := by rw [h.len]; exact hc
  have hbc := mayT_at hm hb hc
  unfold bfStep
  split
  · rename_i h0
    exact ⟨h.up (by omega), Falls.refl _ _, fun h1 h2 => by omega⟩
  · rename_i h0
    split
    · rename_i h1
      have hne : b ≠ c := by rintro rfl; omega
      have hr0 : 0 ≤ r.getD b 0 := by omega
      have ht0 : 0 ≤ gt t b c := by omega
      refine ⟨⟨by simp [h.len], fun i hi => ?_, fun i hi => ?_⟩, fun i hi hi0 => ?_, fun _ _ => ?_⟩
      · rw [getD_set' hcl]
        split
        · rename_i e
          subst e
          right
          rcases h.low b hb with e | e
          · omega
          · have h2 := hp.le b i hb hi hne ht0
            have h3 := hp.tri a i b ha hi hb e.1 h2.1
            omega
        · exact h.low i hi
      · rw [getD_set' hcl]
        have h2 := h.hi b hb
        have h3 := h.hi i hi
        split <;> omega
      · rw [getD_set' hcl]
        split
        · rename_i e
          subst e
          omega
        · omega
      · rw [getD_set' hcl, if_pos rfl]
        omega
    · rename_i h1
      exact ⟨h.up (by omega), Falls.refl _ _, fun h2 h3 => by omega⟩
theorem bf_rowU {t : List (List Int)} (hm : mayT t = true) {a b m : Nat} {r : List Int} (ha : a < t.length) (hb : b < t.length) (h : Bf t.length (shortP t) a m r) :
    ∀ k, k ≤ t.length → Bf t.length (shortP t) a (m + k) (bfRowU t r b k) ∧ Falls t.length r (bfRowU t r b k) ∧ ∀ c, c < k → 0 ≤ r.getD b 0 → 0 ≤ gt t b c → 0 ≤ (bfRowU t r b k).getD c 0 ∧ (bfRowU t r b k).getD c 0 ≤ r.getD b 0 + gt t b c
  | 0, _ => ⟨h, Falls.refl _ _, fun c hc => by omega⟩
  | k + 1, hk => by
    obtain ⟨i1, i2, i3⟩ := bf_rowU hm ha hb h k (by omega)
    obtain ⟨j1, j2, j3⟩ := bf_step hm ha hb (show k < t.length by omega) i1
    rw [bfRowU_succ]
    refine ⟨j1, i2.trans j2, fun c hc h0 h1 => ?_⟩
    by_cases e : c = k
    · subst e
      have h2 := i2 b hb h0
      have h3 := j3 h2.1 h1
      omega
    · have h2 := i3 c (by omega) h0 h1
      have h3 := j2 c (by omega) h2.1
      omega
theorem bf_rndU {t : List (List Int)} (hm : mayT t = true) {a m : Nat} {r : List Int} (ha : a < t.length) (h : Bf t.length (shortP t) a m r) :
    ∀ k, k ≤ t.length → Bf t.length (shortP t) a (m + 12 * k) (bfRndU t t.length r k) ∧ Falls t.length r (bfRndU t t.length r k) ∧ ∀ b c, b < k → c < t.length → 0 ≤ r.getD b 0 → 0 ≤ gt t b c → 0 ≤ (bfRndU t t.length r k).getD c 0 ∧ (bfRndU t t.length r k).getD c 0 ≤ r.getD b 0 + gt t b c
  | 0, _ => ⟨h, Falls.refl _ _, fun b c hb => by omega⟩
  | k + 1, hk => by
    obtain ⟨i1, i2, i3⟩ := bf_rndU hm ha h k (by omega)
    obtain ⟨j1, j2, j3⟩ := bf_rowU hm ha (show k < t.length by omega) i1 t.length (Nat.le_refl _)
    have hn := (mayT_sq hm).1
    rw [bfRndU_succ]
    refine ⟨j1.up (by omega), i2.trans j2, fun b c hb hc h0 h1 => ?_⟩
    by_cases e : b = k
    · subst e
      have h2 := i2 b (by omega) h0
      have h3 := j3 c hc h2.1 h1
      omega
    · have h2 := i3 b c (by omega) hc h0 h1
      have h3 := j2 c hc h2.1
      omega
theorem bf_ini {t : List (List Int)} (hm : mayT t = true) {a : Nat} (ha : a < t.length) : Bf t.length (shortP t) a 0 (bfIni t.length a) := by
  have hp := pass_short hm
  have e : ∀ c, c < t.length → (bfIni t.length a).getD c 0 = if c = a then 0 else -1 := fun c hc => by
    unfold bfIni
    rw [getD_set' (by simpa using ha)]
    split
    · rfl
    · rw [List.getD_eq_getElem?_getD, List.getElem?_replicate]; simp [hc]
  refine ⟨by simp [bfIni], fun c hc => ?_, fun c hc => ?_⟩
  · rw [e c hc]
    split
    · rename_i h
      subst h
      right
      have := hp.low.dg c ha
      omega
    · exact .inl rfl
  · rw [e c hc]
    split <;> omega
theorem bf_upto {t : List (List Int)} (hm : mayT t = true) {a : Nat} (ha : a < t.length) : ∀ k, Bf t.length (shortP t) a (144 * k) (bfU t t.length a k) ∧
    ∀ l : List Nat, l.length ≤ k → (∀ x ∈ l, x < t.length) → wOK t a l → 0 ≤ (bfU t t.length a k).getD (wE a l) 0 ∧ (bfU t t.length a k).getD (wE a l) 0 ≤ wC t a l
  | 0 => by
    refine ⟨bf_ini hm ha, fun l hl _ _ => ?_⟩
    obtain rfl : l = [] := List.eq_nil_of_length_eq_zero (by omega)
    show 0 ≤ (bfIni t.length a).getD a 0 ∧ (bfIni t.length a).getD a 0 ≤ 0
    unfold bfIni
    rw [getD_set' (by simpa using ha), if_pos rfl]
    omega
  | k + 1 => by
    obtain ⟨i1, i2⟩ := bf_upto hm ha k
    obtain ⟨j1, j2, j3⟩ := bf_rndU hm ha i1 t.length (Nat.le_refl _)
    have hn := (mayT_sq hm).1
    rw [bfU_succ]
    refine ⟨j1.up (by omega), fun l hl hv hw => ?_⟩
    rcases List.eq_nil_or_concat l with rfl | ⟨p, x, rfl⟩
    · have h1 := i2 [] (by simp) (by simp) trivial
      have h2 := j2 _ ha h1.1
      exact ⟨h2.1, Int.le_trans h2.2 h1.2⟩
    · rw [List.concat_eq_append] at hl hv hw ⊢
      have hw2 := wOK_app.1 hw
      have hpl : p.length ≤ k := by simp at hl; omega
      have hx : x < t.length := hv x (by simp)
      have hpv : ∀ y ∈ p, y < t.length := fun y hy => hv y (by simp [hy])
      have h1 := i2 p hpl hpv hw2.1
      have h2 := j3 (wE a p) x (wE_lt ha hpv) hx h1.1 hw2.2.1
      rw [wE_app, wC_app]
      simp only [wE, wC]
      omega
/-- The two ways tell the same. -/
theorem bf_eq {t : List (List Int)} (hm : mayT t = true) : bfT t t.length = shortP t := by
  have hp := pass_short hm
  have hw := walks_upto hm t.length (Nat.le_refl _)
  have hq := hp.low.sq
  have hrow : ∀ a, a < t.length → (bfT t t.length).getD a [] = bfU t t.length a t.length := fun a ha => by
    rw [List.getD_eq_getElem?_getD]
    simp [bfT, ha]
  refine sq_ext ⟨by simp [bfT], fun r hr => ?_⟩ hq fun a b ha hb => ?_
  · simp only [bfT, List.mem_map, List.mem_range] at hr
    obtain ⟨a, ha, rfl⟩ := hr
    exact (bf_upto hm ha t.length).1.len
  · obtain ⟨h1, h2⟩ := bf_upto hm ha t.length
    have e : gt (bfT t t.length) a b = (bfU t t.length a t.length).getD b 0 := by unfold gt; rw [hrow a ha]
    rw [e]
    by_cases h0 : 0 ≤ gt (shortP t) a b
    · obtain ⟨l, l1, l2, l3, l4⟩ := hw a b ha hb h0
      obtain ⟨m, m1, m2, m3, m4, m5⟩ := walk_short l a l2
      have hmv : ∀ x ∈ m, x < t.length := fun x hx => l1 x (m2 x hx)
      have hml : (a :: m).length ≤ (List.range t.length).length := nodup_len m1 (fun x hx => by
        rcases List.mem_cons.1 hx with e | e
        · rw [e]; simpa using ha
        · simpa using hmv x e)
      simp at hml
      have h3 := h2 m (by omega) hmv m3
      rw [m4, l3] at h3
      have l5 : wC t a l ≤ gt (shortP t) a b := l4
      rcases h1.low b hb with e1 | e1 <;> omega
    · have h3 := hp.low.low a b ha hb
      rcases h1.low b hb with e1 | e1 <;> omega

end Go.Proofs.Ytilhmlapbifbbaa
