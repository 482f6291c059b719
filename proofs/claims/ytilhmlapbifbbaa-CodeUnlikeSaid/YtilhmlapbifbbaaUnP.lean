/- Plain: no soup's bytes are the beginning of another one's. -/
import Derived.Test.YtilhmlapbifbbaaSoN
namespace Go.Proofs.Ytilhmlapbifbbaa
open Go.RowKit

theorem enc_inj (n : Nat) : ∀ (m : Nat) (r r' : List Int), enc n ++ r = enc m ++ r' → n = m ∧ r = r' := by
  induction n using Nat.strongRecOn with
  | _ n ih =>
    intro m r r' h
    by_cases hn : n < 128
    · by_cases hm : m < 128
      · rw [enc_small hn, enc_small hm] at h
        simp only [List.cons_append, List.nil_append, List.cons.injEq] at h
        exact ⟨by omega, h.2⟩
      · rw [enc_small hn, enc_big hm] at h
        simp only [List.cons_append, List.nil_append, List.cons.injEq] at h
        omega
    · by_cases hm : m < 128
      · rw [enc_big hn, enc_small hm] at h
        simp only [List.cons_append, List.nil_append, List.cons.injEq] at h
        omega
      · rw [enc_big hn, enc_big hm] at h
        simp only [List.cons_append, List.cons.injEq] at h
        obtain ⟨h1, h2⟩ := h
        obtain ⟨h3, h4⟩ := ih (n / 128) (by omega) (m / 128) r r' h2
        exact ⟨by omega, h4⟩
theorem encs_inj : ∀ (l l' r r' : List Int), l.length = l'.length → (∀ x ∈ l, 0 ≤ x) → (∀ x ∈ l', 0 ≤ x) → encs l ++ r = encs l' ++ r' → l = l' ∧ r = r' := by
  intro l
  induction l with
  | nil =>
    intro l' r r' hl _ _ h
    have : l' = [] := List.length_eq_zero_iff.1 (by simpa using hl.symm)
    subst this
    exact ⟨rfl, by simpa [encs] using h⟩
  | cons x l ih =>
    intro l' r r' hl h0 h0' h
    match l', hl with
    | y :: l', hl =>
      rw [encs_cons, encs_cons, List.append_assoc, List.append_assoc] at h
      obtain ⟨h1, h2⟩ := enc_inj _ _ _ _ h
      obtain ⟨h3, h4⟩ := ih l' r r' (by simpa using hl) (fun z hz => h0 z (by simp [hz])) (fun z hz => h0' z (by simp [hz])) h2
      have hx := h0 x (by simp)
      have hy := h0' y (by simp)
      refine ⟨?_, h4⟩
      rw [h3, show x = y by omega]
theorem flatMap_len {α : Type} {f : α → List Int} {m : Nat} (hf : ∀ x, (f x).length = m) (l : List α) : (l.flatMap f).length = m * l.length := by
  induction l with
  | nil => simp
  | cons x l ih => simp [hf, ih, Nat.mul_add, Nat.add_comm]
theorem flatMap_inj {α : Type} {f : α → List Int} {m : Nat} (hf : ∀ x, (f x).length = m) (hi : ∀ x y, f x = f y → x = y) : ∀ l l' : List α, l.length = l'.length → l.flatMap f = l'.flatMap f → l = l' := by
  intro l
  induction l with
  | nil =>
    intro l' hl _
    exact (List.length_eq_zero_iff.1 (by simpa using hl.symm)).symm
  | cons x l ih =>
    intro l' hl h
    match l', hl with
    | y :: l', hl =>
      rw [List.flatMap_cons, List.flatMap_cons] at h
      obtain ⟨h1, h2⟩ := List.append_inj h (by rw [hf, hf])
      rw [hi x y h1, ih l' (by simpa using hl) h2]
theorem zig_inj {a b : Int} (h : zig a = zig b) : a = b := by
  unfold zig at h
  split at h <;> split at h <;> omega
theorem vtxN_inj {a b : Vtx} (h : vtxN a = vtxN b) : a = b := by
  obtain ⟨x, y, z⟩ := a
  obtain ⟨x', y', z'⟩ := b
  simp only [vtxN, List.cons.injEq, and_true] at h
  obtain ⟨h1, h2, h3⟩ := h
  rw [h1, h3, zig_inj (Int.ofNat.inj h2)]
theorem sptN_inj {a b : Spt} (h : sptN a = sptN b) : a = b := by
  obtain ⟨x, z, y⟩ := a
  obtain ⟨x', z', y'⟩ := b
  simp only [sptN, List.cons.injEq, and_true] at h
  obtain ⟨h1, h2, h3⟩ := h
  rw [h1, h2, zig_inj (Int.ofNat.inj h3)]
theorem triN_len (t : Tri3) : (triN t).length = 10 := rfl
theorem bxN_len (t : Bx) : (bxN t).length = 8 := rfl
theorem hpN_len (t : Hp) : (hpN t).length = 10 := rfl
theorem triN_inj (a b : Tri3) (h : triN a = triN b) : a = b := by
  obtain ⟨i, u, v, w⟩ := a
  obtain ⟨i', u', v', w'⟩ := b
  simp only [triN, List.cons.injEq] at h
  obtain ⟨h1, h2⟩ := h
  obtain ⟨h2, h3⟩ := List.append_inj h2 rfl
  obtain ⟨h3, h4⟩ := List.append_inj h3 rfl
  rw [h1, vtxN_inj h2, vtxN_inj h3, vtxN_inj h4]
theorem bxN_inj (a b : Bx) (h : bxN a = bxN b) : a = b := by
  obtain ⟨x0, x1, x2, x3, x4, x5, x6, x7⟩ := a
  obtain ⟨y0, y1, y2, y3, y4, y5, y6, y7⟩ := b
  simp only [bxN, List.cons.injEq, and_true] at h
  obtain ⟨h0, h1, h2, h3, h4, h5, h6, h7⟩ := h
  rw [h0, h1, h2, h3, h4, zig_inj (Int.ofNat.inj h5), zig_inj (Int.ofNat.inj h6), h7]
theorem bothN_inj {a b : Bool} (h : bothN a = bothN b) : a = b := by
  cases a <;> cases b <;> first | rfl | (simp [bothN] at h)
theorem hpN_inj (a b : Hp) (h : hpN a = hpN b) : a = b := by
  obtain ⟨x0, ⟨x1, x2, x3⟩, ⟨x4, x5, x6⟩, x7, x8, x9⟩ := a
  obtain ⟨y0, ⟨y1, y2, y3⟩, ⟨y4, y5, y6⟩, y7, y8, y9⟩ := b
  simp only [hpN, List.cons.injEq, and_true] at h
  obtain ⟨h0, h1, h2, h3, h4, h5, h6, h7, h8, h9⟩ := h
  rw [h0, h1, h2, zig_inj (Int.ofNat.inj h3), h4, h5, zig_inj (Int.ofNat.inj h6), bothN_inj h7, h8, h9]
theorem flat_ok {α : Type} {f : α → List Int} {l : List α} (h : ∀ t ∈ l, ∀ x ∈ f t, numOk x) : ∀ x ∈ l.flatMap f, 0 ≤ x := by
  intro x hx
  obtain ⟨t, ht, hx⟩ := List.mem_flatMap.1 hx
  exact (h t ht x hx).1
theorem soup_pos (c : Cfg) (s : Sou) : 0 < (encs (soupN c s)).length := by
  unfold soupN soupN2 soupN1 soupN0 cfgN
  simp only [encs_append, List.length_append, encs_cons]
  have := enc_pos c.clear.toNat
  omega
/-- A config's and a soup's bytes tell which they are, whatever stands behind them. -/
theorem soup_inj {c d : Cfg} {s t : Sou} {r r' : List Int} (hc : SoupF c s) (hd : SoupF d t) (h : encs (soupN c s) ++ r = encs (soupN d t) ++ r') : c = d ∧ s = t ∧ r = r' := by
  unfold soupN soupN2 soupN1 soupN0 at h
  simp only [encs_append, List.append_assoc] at h
  have one : ∀ n : Nat, ∀ x ∈ [(n : Int)], 0 ≤ x := by intro n x hx; simp at hx; omega
  obtain ⟨h0, h⟩ := encs_inj _ _ _ _ (by rfl) (fun x hx => (cfgN_ok hc.c x hx).1) (fun x hx => (cfgN_ok hd.c x hx).1) h
  obtain ⟨l1, h⟩ := encs_inj _ _ _ _ (by rfl) (one _) (one _) h
  have l1 : s.t.length = t.t.length := by simp only [List.cons.injEq, and_true] at l1; omega
  obtain ⟨h1, h⟩ := encs_inj _ _ _ _ (by rw [flatMap_len triN_len, flatMap_len triN_len, l1]) (flat_ok fun x hx => triN_ok (hc.t x hx)) (flat_ok fun x hx => triN_ok (hd.t x hx)) h
  obtain ⟨l2, h⟩ := encs_inj _ _ _ _ (by rfl) (one _) (one _) h
  have l2 : s.b.length = t.b.length := by simp only [List.cons.injEq, and_true] at l2; omega
  obtain ⟨h2, h⟩ := encs_inj _ _ _ _ (by rw [flatMap_len bxN_len, flatMap_len bxN_len, l2]) (flat_ok fun x hx => bxN_ok (hc.b x hx)) (flat_ok fun x hx => bxN_ok (hd.b x hx)) h
  obtain ⟨l3, h⟩ := encs_inj _ _ _ _ (by rfl) (one _) (one _) h
  have l3 : s.h.length = t.h.length := by simp only [List.cons.injEq, and_true] at l3; omega
  obtain ⟨h3, h⟩ := encs_inj _ _ _ _ (by rw [flatMap_len hpN_len, flatMap_len hpN_len, l3]) (flat_ok fun x hx => hpN_ok (hc.h x hx)) (flat_ok fun x hx => hpN_ok (hd.h x hx)) h
  refine ⟨?_, ?_, h⟩
  · obtain ⟨x0, x1, x2, x3, x4, x5, x6⟩ := c
    obtain ⟨y0, y1, y2, y3, y4, y5, y6⟩ := d
    simp only [cfgN, List.cons.injEq, and_true] at h0
    obtain ⟨e0, e1, e2, e3, e4, e5, e6⟩ := h0
    rw [e0, e1, e2, e3, e4, e5, e6]
  · have e1 := flatMap_inj triN_len triN_inj _ _ l1 h1
    have e2 := flatMap_inj bxN_len bxN_inj _ _ l2 h2
    have e3 := flatMap_inj hpN_len hpN_inj _ _ l3 h3
    obtain ⟨s0, s1, s2⟩ := s
    obtain ⟨t0, t1, t2⟩ := t
    simp only at e1 e2 e3
    rw [e1, e2, e3]
theorem soup_prefix {c d : Cfg} {s t : Sou} (hc : SoupF c s) (hd : SoupF d t) (n : Nat) (hn : n = min (encs (soupN c s)).length (encs (soupN d t)).length) :
    decide ((encs (soupN c s)).take n = (encs (soupN d t)).take n) = (decide (c = d) && decide (s = t)) := by
  by_cases hcd : c = d ∧ s = t
  · obtain ⟨rfl, rfl⟩ := hcd
    simp
  · have hno : ¬ (encs (soupN c s)).take n = (encs (soupN d t)).take n := by
      intro h
      apply hcd
      rcases Nat.le_total (encs (soupN c s)).length (encs (soupN d t)).length with hle | hle
      · rw [Nat.min_eq_left hle] at hn
        rw [List.take_of_length_le (by omega)] at h
        have h2 := List.take_append_drop n (encs (soupN d t))
        rw [← h] at h2
        have := soup_inj hc hd (r := (encs (soupN d t)).drop n) (r' := []) (by rw [h2, List.append_nil])
        exact ⟨this.1, this.2.1⟩
      · rw [Nat.min_eq_right hle] at hn
        rw [List.take_of_length_le (l := encs (soupN d t)) (by omega)] at h
        have h2 := List.take_append_drop n (encs (soupN c s))
        rw [h] at h2
        have := soup_inj hd hc (r := (encs (soupN c s)).drop n) (r' := []) (by rw [h2, List.append_nil])
        exact ⟨this.1.symm, this.2.1.symm⟩
    rw [decide_eq_false hno]
    by_cases h1 : c = d
    · have h2 : ¬ s = t := fun h2 => hcd ⟨h1, h2⟩
      simp [h1, h2]
    · simp [h1]

end Go.Proofs.Ytilhmlapbifbbaa
