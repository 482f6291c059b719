/- Plain: tables of trips. Imports nothing of the dump. -/
import Derived.WalkKit
namespace Go.Proofs.Ytilhmlapbifbbaa
open Go.RowKit

/-- What stands in row a, place b. -/
def gt (t : List (List Int)) (a b : Nat) : Int := (t.getD a []).getD b 0
/-- A row written anew. -/
def st (t : List (List Int)) (a b : Nat) (v : Int) : List (List Int) := t.set a ((t.getD a []).set b v)
/-- n rows of n. -/
def Sq (n : Nat) (t : List (List Int)) : Prop := t.length = n ∧ ∀ r ∈ t, r.length = n

theorem Sq.row {n : Nat} {t : List (List Int)} (h : Sq n t) {a : Nat} (ha : a < n) : (t.getD a []).length = n := by
  rw [List.getD_eq_getElem?_getD, List.getElem?_eq_getElem (by rw [h.1]; exact ha)]
  exact h.2 _ (List.getElem_mem _)
theorem Sq.st {n : Nat} {t : List (List Int)} (h : Sq n t) {a : Nat} (ha : a < n) (b : Nat) (v : Int) : Sq n (st t a b v) := by
  refine ⟨by simp [Go.Proofs.Ytilhmlapbifbbaa.st, h.1], fun r hr => ?_⟩
  rcases List.mem_or_eq_of_mem_set hr with h1 | h1
  · exact h.2 r h1
  · rw [h1, List.length_set]; exact h.row ha
theorem gt_st {n : Nat} {t : List (List Int)} (h : Sq n t) {a b : Nat} (ha : a < n) (hb : b < n) (v : Int) (i j : Nat) : gt (st t a b v) i j = if i = a ∧ j = b then v else gt t i j := by
  unfold gt st
  have hal : a < t.length := by rw [h.1]; exact ha
  by_cases hi : i = a
  · subst hi
    have e1 : ((t.set i ((t.getD i []).set b v)).getD i []) = (t.getD i []).set b v := by
      simp [List.getD_eq_getElem?_getD, hal]
    rw [e1]
    by_cases hj : j = b
    · subst hj
      have : j < (t.getD i []).length := by rw [h.row ha]; exact hb
      rw [if_pos ⟨rfl, rfl⟩, List.getD_eq_getElem?_getD, List.getElem?_set_self this]
      rfl
    · rw [if_neg (by simp [hj]), List.getD_eq_getElem?_getD, List.getElem?_set_ne (by omega), ← List.getD_eq_getElem?_getD]
  · rw [if_neg (by simp [hi])]
    have e1 : ((t.set a ((t.getD a []).set b v)).getD i []) = t.getD i [] := by
      rw [List.getD_eq_getElem?_getD, List.getElem?_set_ne (by omega), ← List.getD_eq_getElem?_getD]
    rw [e1]

theorem sq_ext {n : Nat} {s t : List (List Int)} (hs : Sq n s) (ht : Sq n t) (h : ∀ a b, a < n → b < n → gt s a b = gt t a b) : s = t := by
  apply List.ext_getElem (by rw [hs.1, ht.1])
  intro a h1 h2
  have ha : a < n := by rw [← hs.1]; exact h1
  apply List.ext_getElem
  · rw [hs.2 _ (List.getElem_mem _), ht.2 _ (List.getElem_mem _)]
  intro b h3 h4
  have hb : b < n := by rw [← hs.2 _ (List.getElem_mem h1)]; exact h3
  have := h a b ha hb
  simpa [gt, List.getD_eq_getElem?_getD, List.getElem?_eq_getElem h1, List.getElem?_eq_getElem h2, List.getElem?_eq_getElem h3, List.getElem?_eq_getElem h4] using this

/-- May it be a table? -/
def mayR (n : Nat) (r : List Int) : Bool := decide (r.length = n) && r.all fun x => decide (-1 ≤ x) && decide (x ≤ 1099511627776)
def mayT (t : List (List Int)) : Bool := decide (t.length ≤ 12) && t.all (mayR t.length)
theorem mayT_sq {t : List (List Int)} (h : mayT t = true) : t.length ≤ 12 ∧ Sq t.length t := by
  simp only [mayT, mayR, Bool.and_eq_true, decide_eq_true_eq, List.all_eq_true] at h
  exact ⟨h.1, rfl, fun r hr => (h.2 r hr).1⟩
theorem mayT_at {t : List (List Int)} (h : mayT t = true) {a b : Nat} (ha : a < t.length) (hb : b < t.length) : -1 ≤ gt t a b ∧ gt t a b ≤ 1099511627776 := by
  have hq := (mayT_sq h).2
  simp only [mayT, mayR, Bool.and_eq_true, decide_eq_true_eq, List.all_eq_true] at h
  have hr := h.2 (t.getD a []) (by rw [List.getD_eq_getElem?_getD, List.getElem?_eq_getElem ha]; exact List.getElem_mem _)
  have hl := hq.row ha
  unfold gt
  rw [List.getD_eq_getElem?_getD, List.getElem?_eq_getElem (by rw [hl]; exact hb)]
  exact hr.2 _ (List.getElem_mem _)
theorem mayT_mk {n : Nat} {t : List (List Int)} (hn : n ≤ 12) (hq : Sq n t) (h : ∀ a b, a < n → b < n → -1 ≤ gt t a b ∧ gt t a b ≤ 1099511627776) : mayT t = true := by
  simp only [mayT, mayR, Bool.and_eq_true, decide_eq_true_eq, List.all_eq_true]
  refine ⟨by rw [hq.1]; exact hn, fun r hr => ⟨by rw [hq.1]; exact hq.2 r hr, fun x hx => ?_⟩⟩
  obtain ⟨a, ha, rfl⟩ := List.getElem_of_mem hr
  obtain ⟨b, hb, rfl⟩ := List.getElem_of_mem hx
  have h1 := h a b (by rw [← hq.1]; exact ha) (by rw [← hq.2 _ hr]; exact hb)
  simpa [gt, List.getD_eq_getElem?_getD, List.getElem?_eq_getElem ha, List.getElem?_eq_getElem hb] using h1

/-! ### The program's Short -/

def lessI (a b : Int) : Bool := (a != -1) && (b == -1 || decide (a < b))
/-- Is it better to go by k? -/
def bet (s : List (List Int)) (k a b : Nat) : Bool := (gt s a k != -1) && (gt s k b != -1) && lessI (gt s a k + gt s k b) (gt s a b)
def relax (k : Nat) (s : List (List Int)) (p : Nat × Nat) : List (List Int) := if bet s k p.1 p.2 then st s p.1 p.2 (gt s p.1 k + gt s k p.2) else s
def prs (n : Nat) : List (Nat × Nat) := (List.range (n * n)).map fun i => (i / n, i % n)
def passK (n : Nat) (s : List (List Int)) (k : Nat) : List (List Int) := (prs n).foldl (relax k) s
/-- The table with nothing from a place to itself. -/
def diag0 (t : List (List Int)) : List (List Int) := (List.range t.length).map fun a => (t.getD a []).set a 0
def upto (n : Nat) (s : List (List Int)) (k : Nat) : List (List Int) := (List.range k).foldl (passK n) s
def shortP (t : List (List Int)) : List (List Int) := upto t.length (diag0 t) t.length

theorem prs_mem {n a b : Nat} : (a, b) ∈ prs n ↔ a < n ∧ b < n := by
  simp only [prs, List.mem_map, List.mem_range, Prod.mk.injEq]
  constructor
  · rintro ⟨i, hi, rfl, rfl⟩
    have hn : 0 < n := by
      rcases Nat.eq_zero_or_pos n with h | h
      · subst h; simp at hi
      · exact h
    exact ⟨(Nat.div_lt_iff_lt_mul hn).2 hi, Nat.mod_lt _ hn⟩
  · rintro ⟨ha, hb⟩
    refine ⟨a * n + b, ?_, ?_, ?_⟩
    · have h1 : (a + 1) * n ≤ n * n := Nat.mul_le_mul_right n ha
      rw [Nat.add_mul, Nat.one_mul] at h1
      omega
    · rw [Nat.add_comm, Nat.add_mul_div_right _ _ (by omega), Nat.div_eq_of_lt hb, Nat.zero_add]
    · rw [Nat.add_comm, Nat.add_mul_mod_self_right, Nat.mod_eq_of_lt hb]

/-- The number that a pass by k leaves. -/
def fK (s : List (List Int)) (k a b : Nat) : Int := if bet s k a b then gt s a k + gt s k b else gt s a b

/-- Nowhere below -1, nothing from a place to itself. -/
structure Low (n : Nat) (s : List (List Int)) : Prop where
  sq : Sq n s
  low : ∀ a b, a < n → b < n → -1 ≤ gt s a b
  dg : ∀ a, a < n → gt s a a = 0

theorem fK_col {n : Nat} {s : List (List Int)} (h : Low n s) {k a : Nat} (hk : k < n) (_ha : a < n) : fK s k a k = gt s a k := by
  have h0 := h.dg k hk
  unfold fK bet lessI
  rw [h0]
  split
  · omega
  · rfl
theorem fK_row {n : Nat} {s : List (List Int)} (h : Low n s) {k b : Nat} (hk : k < n) (_hb : b < n) : fK s k k b = gt s k b := by
  have h0 := h.dg k hk
  unfold fK bet lessI
  rw [h0]
  split
  · omega
  · rfl

theorem passK_inv {n : Nat} {s : List (List Int)} (h : Low n s) {k : Nat} (hk : k < n) (l : List (Nat × Nat)) (hl : ∀ p ∈ l, p.1 < n ∧ p.2 < n) :
    ∀ cur : List (List Int), Sq n cur → (∀ a b, a < n → b < n → gt cur a b = gt s a b ∨ gt cur a b = fK s k a b) →
      Sq n (l.foldl (relax k) cur) ∧ (∀ a b, a < n → b < n → gt (l.foldl (relax k) cur) a b = (if (a, b) ∈ l then fK s k a b else gt cur a b)) := by
  induction l with
  | nil => intro cur hq hc; exact ⟨hq, fun a b _ _ => by simp⟩
  | cons p l ih =>
    intro cur hq hc
    obtain ⟨pa, pb⟩ := p
    have hp := hl (pa, pb) (by simp)
    simp only at hp
    have e1 : gt cur pa k = gt s pa k := by
      rcases hc pa k hp.1 hk with h1 | h1
      · exact h1
      · rw [h1, fK_col h hk hp.1]
    have e2 : gt cur k pb = gt s k pb := by
      rcases hc k pb hk hp.2 with h1 | h1
      · exact h1
      · rw [h1, fK_row h hk hp.2]
    have hl1 := h.low pa pb hp.1 hp.2
    have hl2 := h.low pa k hp.1 hk
    have hl3 := h.low k pb hk hp.2
    have key : Sq n (relax k cur (pa, pb)) ∧ ∀ a b, a < n → b < n → gt (relax k cur (pa, pb)) a b = if a = pa ∧ b = pb then fK s k pa pb else gt cur a b := by
      unfold relax
      simp only
      by_cases hb : bet cur k pa pb = true
      · rw [if_pos hb]
        refine ⟨hq.st hp.1 _ _, fun a b _ _ => ?_⟩
        rw [gt_st hq hp.1 hp.2]
        by_cases hab : a = pa ∧ b = pb
        · rw [if_pos hab, if_pos hab, e1, e2]
          unfold fK
          split
          · rfl
          · rename_i hnb
            unfold bet lessI at hb hnb
            rw [e1, e2] at hb
            rcases hc pa pb hp.1 hp.2 with h1 | h1
            · rw [h1] at hb; exact absurd hb hnb
            · have : fK s k pa pb = gt s pa pb := by unfold fK; rw [if_neg (by unfold bet lessI; exact hnb)]
              rw [h1, this] at hb
              exact absurd hb hnb
        · rw [if_neg hab, if_neg hab]
      · rw [if_neg hb]
        refine ⟨hq, fun a b _ _ => ?_⟩
        by_cases hab : a = pa ∧ b = pb
        · rw [if_pos hab, hab.1, hab.2]
          rcases hc pa pb hp.1 hp.2 with h1 | h1
          · rw [h1]
            unfold fK
            split
            · rename_i hyb
              unfold bet lessI at hb hyb
              rw [e1, e2, h1] at hb
              exact absurd hyb hb
            · rfl
          · exact h1
        · rw [if_neg hab]
    rw [List.foldl_cons]
    obtain ⟨r1, r2⟩ := ih (fun q hq' => hl q (by simp [hq'])) _ key.1 (fun a b ha hb => by
      rw [key.2 a b ha hb]
      split
      · rename_i hab; rw [hab.1, hab.2]; exact .inr rfl
      · exact hc a b ha hb)
    refine ⟨r1, fun a b ha hb => ?_⟩
    rw [r2 a b ha hb, key.2 a b ha hb]
    by_cases h1 : (a, b) ∈ l
    · rw [if_pos h1, if_pos (by simp [h1])]
    · rw [if_neg h1]
      by_cases h2 : a = pa ∧ b = pb
      · rw [if_pos h2, if_pos (by simp [h2]), h2.1, h2.2]
      · rw [if_neg h2, if_neg (by simp only [List.mem_cons, Prod.mk.injEq]; exact fun h => h.elim h2 h1)]

theorem passK_at {n : Nat} {s : List (List Int)} (h : Low n s) {k : Nat} (hk : k < n) : Sq n (passK n s k) ∧ ∀ a b, a < n → b < n → gt (passK n s k) a b = fK s k a b := by
  obtain ⟨h1, h2⟩ := passK_inv h hk (prs n) (fun p hp => prs_mem.1 hp) s h.sq (fun _ _ _ _ => .inl rfl)
  exact ⟨h1, fun a b ha hb => by rw [show gt (passK n s k) a b = _ from h2 a b ha hb, if_pos (prs_mem.2 ⟨ha, hb⟩)]⟩

/-- A way by k, in words for omega. -/
theorem fK_cases {n : Nat} {s : List (List Int)} (h : Low n s) {k a b : Nat} (hk : k < n) (ha : a < n) (hb : b < n) :
    (0 ≤ gt s a k ∧ 0 ≤ gt s k b ∧ (gt s a b = -1 ∨ gt s a k + gt s k b < gt s a b) ∧ fK s k a b = gt s a k + gt s k b) ∨
    ((gt s a k = -1 ∨ gt s k b = -1 ∨ (0 ≤ gt s a b ∧ gt s a b ≤ gt s a k + gt s k b)) ∧ fK s k a b = gt s a b) := by
  have h1 := h.low a k ha hk
  have h2 := h.low k b hk hb
  have h3 := h.low a b ha hb
  unfold fK bet lessI
  by_cases c1 : gt s a k = -1
  · right; simp [c1]
  by_cases c2 : gt s k b = -1
  · right; simp [c2]
  by_cases c3 : gt s a b = -1
  · left
    have : gt s a k + gt s k b ≠ -1 := by omega
    simp [c1, c2, c3, this]
    omega
  by_cases c4 : gt s a k + gt s k b < gt s a b
  · left
    have : gt s a k + gt s k b ≠ -1 := by omega
    simp [c1, c2, c3, c4, this]
    omega
  · right
    simp [c1, c2, c3, c4]
    omega

/-- What k passes have brought about, for a table t. -/
structure Pass (n : Nat) (t : List (List Int)) (k : Nat) (s : List (List Int)) : Prop where
  low : Low n s
  hi : ∀ a b, a < n → b < n → gt s a b ≤ 1099511627776 * 2 ^ k
  le : ∀ a b, a < n → b < n → a ≠ b → 0 ≤ gt t a b → 0 ≤ gt s a b ∧ gt s a b ≤ gt t a b
  tri : ∀ a b c, a < n → b < n → c < k → 0 ≤ gt s a c → 0 ≤ gt s c b → 0 ≤ gt s a b ∧ gt s a b ≤ gt s a c + gt s c b
  comes : ∀ a b, a < n → b < n → a ≠ b → 0 ≤ gt s a b → ∃ c, c < n ∧ c ≠ b ∧ 0 ≤ gt s a c ∧ 0 ≤ gt t c b ∧ gt s a c + gt t c b ≤ gt s a b

theorem diag0_at {n : Nat} {t : List (List Int)} (h : Sq n t) : Sq n (diag0 t) ∧ ∀ a b, a < n → b < n → gt (diag0 t) a b = if a = b then 0 else gt t a b := by
  refine ⟨⟨by simp [diag0, h.1], fun r hr => ?_⟩, fun a b ha hb => ?_⟩
  · simp only [diag0, List.mem_map, List.mem_range] at hr
    obtain ⟨a, ha, rfl⟩ := hr
    rw [List.length_set]
    exact h.row (by rw [← h.1]; exact ha)
  · have hal : a < t.length := by rw [h.1]; exact ha
    have e1 : (diag0 t).getD a [] = (t.getD a []).set a 0 := by
      simp [diag0, List.getD_eq_getElem?_getD, hal]
    unfold gt
    rw [e1]
    have hrl := h.row ha
    by_cases hab : a = b
    · subst hab
      rw [if_pos rfl, List.getD_eq_getElem?_getD, List.getElem?_set_self (by rw [hrl]; exact ha)]
      rfl
    · rw [if_neg hab, List.getD_eq_getElem?_getD, List.getElem?_set_ne hab, ← List.getD_eq_getElem?_getD]

theorem pass_zero {t : List (List Int)} (hm : mayT t = true) : Pass t.length t 0 (diag0 t) := by
  obtain ⟨_, hq⟩ := mayT_sq hm
  obtain ⟨d1, d2⟩ := diag0_at hq
  refine ⟨⟨d1, fun a b ha hb => ?_, fun a ha => by rw [d2 a a ha ha, if_pos rfl]⟩, fun a b ha hb => ?_, fun a b ha hb hab h0 => ?_, fun a b c _ _ hc => absurd hc (Nat.not_lt_zero c), fun a b ha hb hab h0 => ?_⟩
  · rw [d2 a b ha hb]
    have := mayT_at hm ha hb
    split <;> omega
  · rw [d2 a b ha hb]
    have := mayT_at hm ha hb
    split <;> omega
  · rw [d2 a b ha hb, if_neg hab]
    omega
  · rw [d2 a b ha hb, if_neg hab] at h0 ⊢
    exact ⟨a, ha, hab, by rw [d2 a a ha ha, if_pos rfl]; omega, h0, by rw [d2 a a ha ha, if_pos rfl]; omega⟩

theorem pass_succ {n : Nat} {t : List (List Int)} {k : Nat} {s : List (List Int)} (hk : k < n) (h : Pass n t k s) : Pass n t (k + 1) (passK n s k) := by
  obtain ⟨q1, q2⟩ := passK_at h.low hk
  have hc := fun a b (ha : a < n) (hb : b < n) => fK_cases h.low hk ha hb
  have hkk := h.low.dg k hk
  refine ⟨⟨q1, fun a b ha hb => ?_, fun a ha => ?_⟩, fun a b ha hb => ?_, fun a b ha hb hab h0 => ?_, fun a b c ha hb hck h1 h2 => ?_, fun a b ha hb hab h0 => ?_⟩
  · rw [q2 a b ha hb]
    have := h.low.low a b ha hb
    rcases hc a b ha hb with h1 | h1 <;> omega
  · rw [q2 a a ha ha]
    have := h.low.dg a ha
    rcases hc a a ha ha with h1 | h1 <;> omega
  · rw [q2 a b ha hb]
    have e := h.hi a b ha hb
    have e1 := h.hi a k ha hk
    have e2 := h.hi k b hk hb
    have e3 : (1099511627776 * 2 ^ (k + 1) : Int) = 1099511627776 * 2 ^ k + 1099511627776 * 2 ^ k := by rw [Int.pow_succ]; omega
    have e4 : (0 : Int) ≤ 1099511627776 * 2 ^ k := by have : (0 : Int) ≤ 2 ^ k := Int.le_of_lt (Int.pow_pos (by decide)); omega
    generalize (1099511627776 * 2 ^ k : Int) = B at *
    rcases hc a b ha hb with h1 | h1 <;> omega
  · rw [q2 a b ha hb]
    have := h.le a b ha hb hab h0
    rcases hc a b ha hb with h1 | h1 <;> omega
  · have hcn : c < n := by omega
    rw [q2 a b ha hb]
    rw [q2 a c ha hcn] at h1 ⊢
    rw [q2 c b hcn hb] at h2 ⊢
    have l1 := h.low.low a c ha hcn
    have l2 := h.low.low c b hcn hb
    have l3 := h.low.low a b ha hb
    have l4 := h.low.low a k ha hk
    have l5 := h.low.low k b hk hb
    have l6 := h.low.low k c hk hcn
    have l7 := h.low.low c k hcn hk
    by_cases hek : c = k
    · subst hek
      have e1 := fK_col h.low hk ha
      have e2 := fK_row h.low hk hb
      rw [e1] at h1 ⊢
      rw [e2] at h2 ⊢
      rcases hc a b ha hb with h3 | h3 <;> omega
    · have hclt : c < k := by omega
      have t1 := h.tri a b c ha hb hclt
      have t2 := h.tri k b c hk hb hclt
      have t3 := h.tri a k c ha hk hclt
      rcases hc a c ha hcn with h3 | h3
      · rcases hc c b hcn hb with h4 | h4
        · have t4 := h.tri k k c hk hk hclt
          rcases hc a b ha hb with h5 | h5 <;> omega
        · have := t2 (by omega) (by omega)
          rcases hc a b ha hb with h5 | h5 <;> omega
      · rcases hc c b hcn hb with h4 | h4
        · have := t3 (by omega) (by omega)
          rcases hc a b ha hb with h5 | h5 <;> omega
        · have := t1 (by omega) (by omega)
          rcases hc a b ha hb with h5 | h5 <;> omega
  · rw [q2 a b ha hb] at h0 ⊢
    rcases hc a b ha hb with h1 | h1
    · by_cases hkb : k = b
      · exfalso
        subst hkb
        omega
      · obtain ⟨c, hcn, hcb, c1, c2, c3⟩ := h.comes k b hk hb hkb (by omega)
        refine ⟨c, hcn, hcb, ?_, c2, ?_⟩
        · rw [q2 a c ha hcn]
          have := h.low.low a c ha hcn
          rcases hc a c ha hcn with h2 | h2 <;> omega
        · rw [q2 a c ha hcn]
          have := h.low.low a c ha hcn
          rcases hc a c ha hcn with h2 | h2 <;> omega
    · obtain ⟨c, hcn, hcb, c1, c2, c3⟩ := h.comes a b ha hb hab (by omega)
      refine ⟨c, hcn, hcb, ?_, c2, ?_⟩
      · rw [q2 a c ha hcn]
        rcases hc a c ha hcn with h2 | h2 <;> omega
      · rw [q2 a c ha hcn]
        rcases hc a c ha hcn with h2 | h2 <;> omega

theorem upto_succ (n : Nat) (s : List (List Int)) (k : Nat) : upto n s (k + 1) = passK n (upto n s k) k := by
  simp [upto, List.range_succ]
theorem pass_upto {t : List (List Int)} (hm : mayT t = true) : ∀ k, k ≤ t.length → Pass t.length t k (upto t.length (diag0 t) k)
  | 0, _ => pass_zero hm
  | k + 1, hk => by rw [upto_succ]; exact pass_succ hk (pass_upto hm k (by omega))
/-- The short table. -/
theorem pass_short {t : List (List Int)} (hm : mayT t = true) : Pass t.length t t.length (shortP t) := pass_upto hm _ (Nat.le_refl _)

/-- A table in which no trip of two is shorter is its own short one. -/
theorem passK_still {n : Nat} {s : List (List Int)} (h : Low n s) {k : Nat} (hk : k < n) (ht : ∀ a b, a < n → b < n → 0 ≤ gt s a k → 0 ≤ gt s k b → 0 ≤ gt s a b ∧ gt s a b ≤ gt s a k + gt s k b) : passK n s k = s := by
  obtain ⟨q1, q2⟩ := passK_at h hk
  refine sq_ext q1 h.sq fun a b ha hb => ?_
  rw [q2 a b ha hb]
  have := ht a b ha hb
  rcases fK_cases h hk ha hb with h1 | h1 <;> omega
theorem short_short {t : List (List Int)} (hm : mayT t = true) : shortP (shortP t) = shortP t := by
  have hp := pass_short hm
  have hl : (shortP t).length = t.length := hp.low.sq.1
  have hd : diag0 (shortP t) = shortP t := by
    obtain ⟨d1, d2⟩ := diag0_at hp.low.sq
    refine sq_ext d1 hp.low.sq fun a b ha hb => ?_
    rw [d2 a b ha hb]
    split
    · rename_i h; subst h; exact (hp.low.dg a ha).symm
    · rfl
  have hu : ∀ k, k ≤ t.length → upto t.length (shortP t) k = shortP t := by
    intro k
    induction k with
    | zero => intro _; rfl
    | succ k ih =>
      intro hk
      rw [upto_succ, ih (by omega)]
      exact passK_still hp.low hk (fun a b ha hb h1 h2 => hp.tri a b k ha hb hk h1 h2)
  rw [shortP, hl, hd]
  exact hu _ (Nat.le_refl _)

end Go.Proofs.Ytilhmlapbifbbaa
