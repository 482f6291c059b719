/- Plain: what is written is read again, and what was read is written again: numbers, rows of things. -/
import Derived.Test.YtgfmdgiepomkiaaGreatKq
import Derived.Test.YtgfmdgiepomkiaaGreatKn
import Derived.Test.YtgfmdgiepomkiaaGreatLg
import Derived.Test.YtgfmdgiepomkiaaGreatLe
namespace Go.Proofs.YtgfmdgiepomkiaaGreat
open Go.RowKit

theorem encsK_append (a b : List Int) : encs (a ++ b) = encs a ++ encs b := by simp [encs]
theorem encsK_one (x : Int) : encs [x] = enc x.toNat := by simp [encs]
theorem drop_head {xs : List Int} {i : Nat} {x : Int} {r : List Int} (h : xs.drop i = x :: r) : i < xs.length ∧ xs.getD i 0 = x ∧ xs.drop (i + 1) = r := by
 have hi : i < xs.length := by
  refine Classical.byContradiction fun h0 => ?_
  rw [List.drop_eq_nil_of_le (by omega)] at h
  cases h
 rw [List.drop_eq_getElem_cons hi] at h
 simp only [List.cons.injEq] at h
 refine ⟨hi, ?_, h.2⟩
 rw [List.getD_eq_getElem?_getD, List.getElem?_eq_getElem hi]
 exact h.1
theorem pow_step (a i : Nat) : (a % 128) * 128 ^ i + (a / 128) * 128 ^ (i + 1) = a * 128 ^ i := by
 rw [Nat.pow_succ, Nat.mul_comm (128 ^ i) 128, ← Nat.mul_assoc, ← Nat.add_mul]
 congr 1
 omega
theorem rdAt_enc (xs r : List Int) : ∀ (f n i acc : Nat), n < 128 ^ (f + 1) → (0 < i → n ≠ 0) → xs.drop i = enc n ++ r → rdAt xs (f + 1) i (acc : Int) = (((acc + n * 128 ^ i : Nat) : Int), ((i + (enc n).length : Nat) : Int), 0) := by
 intro f
 induction f with
 | zero =>
  intro n i acc hn h0 h
  have hn : n < 128 := by simpa using hn
  rw [enc_small hn] at h ⊢
  obtain ⟨h1, h2, h3⟩ := drop_head h
  rw [rdAt, if_pos h1, h2, if_pos (by omega), if_neg (by omega)]
  have e : (n : Int) % 128 = (n : Int) := by omega
  rw [e]
  simp only [List.length_singleton, Prod.mk.injEq, and_true]
  exact ⟨by norm_cast, by norm_cast⟩
 | succ f ih =>
  intro n i acc hn h0 h
  by_cases hs : n < 128
  ·
   rw [enc_small hs] at h ⊢
   obtain ⟨h1, h2, h3⟩ := drop_head h
   rw [rdAt, if_pos h1, h2, if_pos (by omega), if_neg (by omega)]
   have e : (n : Int) % 128 = (n : Int) := by omega
   rw [e]
   simp only [List.length_singleton, Prod.mk.injEq, and_true]
   exact ⟨by norm_cast, by norm_cast⟩
  ·
   rw [enc_big hs] at h ⊢
   rw [List.cons_append] at h
   obtain ⟨h1, h2, h3⟩ := drop_head h
   rw [rdAt, if_pos h1, h2, if_neg (by omega)]
   have e : ((n % 128 + 128 : Nat) : Int) % 128 = ((n % 128 : Nat) : Int) := by omega
   rw [e]
   have e2 : (acc : Int) + ((n % 128 : Nat) : Int) * 128 ^ i = ((acc + n % 128 * 128 ^ i : Nat) : Int) := by norm_cast
   rw [e2, ih (n / 128) (i + 1) _ (by rw [Nat.pow_succ] at hn; omega) (by omega) h3]
   have e3 : acc + n % 128 * 128 ^ i + n / 128 * 128 ^ (i + 1) = acc + n * 128 ^ i := by rw [Nat.add_assoc, pow_step]
   rw [e3]
   simp only [List.length_cons, Prod.mk.injEq, and_true, true_and]
   norm_cast
   omega
theorem rdAt_back (xs : List Int) (hb : ∀ x ∈ xs, 0 ≤ x ∧ x ≤ 255) : ∀ (f i acc : Nat) (v u : Int), rdAt xs f i (acc : Int) = (v, u, 0) → ∃ n : Nat, v = ((acc + n * 128 ^ i : Nat) : Int) ∧ (0 < i → n ≠ 0) ∧ u = ((i + (enc n).length : Nat) : Int) ∧ xs.drop i = enc n ++ xs.drop (i + (enc n).length) := by
 intro f
 induction f with
 | zero => intro i acc v u h; simp [rdAt] at h
 | succ f ih =>
  intro i acc v u h
  rw [rdAt] at h
  by_cases hi : i < xs.length
  ·
   rw [if_pos hi] at h
   have hx := hb xs[i] (List.getElem_mem hi)
   have hg : xs.getD i 0 = xs[i] := by rw [List.getD_eq_getElem?_getD, List.getElem?_eq_getElem hi]; rfl
   have hd := List.drop_eq_getElem_cons hi
   rw [hg] at h
   obtain ⟨b, hbx⟩ : ∃ b : Nat, xs[i] = (b : Int) := ⟨xs[i].toNat, by omega⟩
   rw [hbx] at h hd hx
   by_cases hs : (b : Int) < 128
   ·
    rw [if_pos hs] at h
    by_cases hz : (b : Int) = 0 ∧ 0 < i
    ·
     rw [if_pos hz] at h; simp at h
    ·
     rw [if_neg hz] at h
     simp only [Prod.mk.injEq, and_true] at h
     have e : (b : Int) % 128 = (b : Int) := by omega
     rw [e] at h
     refine ⟨b, ?_, fun h0 h1 => hz ⟨by omega, h0⟩, ?_, ?_⟩
     ·
      have e2 : (acc : Int) + (b : Int) * 128 ^ i = ((acc + b * 128 ^ i : Nat) : Int) := by simp [Int.natCast_pow]
      rw [← h.1, e2]
     ·
      rw [← h.2, enc_small (by omega)]; simp
     ·
      rw [enc_small (by omega), hd]; rfl
   ·
    rw [if_neg hs] at h
    have e : (b : Int) % 128 = ((b - 128 : Nat) : Int) := by omega
    rw [e] at h
    have e2 : (acc : Int) + ((b - 128 : Nat) : Int) * 128 ^ i = ((acc + (b - 128) * 128 ^ i : Nat) : Int) := by norm_cast
    rw [e2] at h
    obtain ⟨n, h1, h2, h3, h4⟩ := ih _ _ _ _ h
    have hn0 := h2 (by omega)
    have hN : enc (b - 128 + 128 * n) = (b : Int) :: enc n := by
     rw [enc_big (by omega), show (b - 128 + 128 * n) / 128 = n by omega, show (b - 128 + 128 * n) % 128 + 128 = b by omega]
    refine ⟨b - 128 + 128 * n, ?_, by omega, ?_, ?_⟩
    ·
     rw [h1]
     congr 1
     have := pow_step (b - 128 + 128 * n) i
     rw [show (b - 128 + 128 * n) / 128 = n by omega, show (b - 128 + 128 * n) % 128 = b - 128 by omega] at this
     omega
    ·
     rw [h3, hN, List.length_cons]; congr 1; omega
    ·
     rw [hd, hN, List.cons_append, h4, List.length_cons, show i + ((enc n).length + 1) = i + 1 + (enc n).length by omega]
  ·
   rw [if_neg hi] at h; simp at h
/-- Read forward: where N's bytes stand, a is read. -/
def Fw {α : Type} (xs : List Int) (one : RS → α × RS) (N : List Int) (a : α) : Prop := ∀ i r, xs.drop i = encs N ++ r → one (i, false) = (a, (i + (encs N).length, false))
/-- What was read well stood there. -/
def Bw {α : Type} (xs : List Int) (one : RS → α × RS) (N : α → List Int) : Prop := ∀ st a j, one st = (a, (j, false)) → st.2 = false ∧ xs.drop st.1 = encs (N a) ++ xs.drop j ∧ j = st.1 + (encs (N a)).length
theorem drop_on {xs : List Int} {i : Nat} {l r : List Int} (h : xs.drop i = l ++ r) : xs.drop (i + l.length) = r := by
 rw [← List.drop_drop, h, List.drop_left]
theorem num_fw (xs : List Int) {v : Int} (h0 : 0 ≤ v) (h1 : v ≤ 4398046511104) : Fw xs (rdNum xs) [v] v := by
 intro i r h
 rw [encsK_one] at h ⊢
 obtain ⟨n, rfl⟩ : ∃ n : Nat, v = (n : Int) := ⟨v.toNat, by omega⟩
 rw [Int.toNat_natCast] at h ⊢
 have h2 : (xs.drop i).drop 0 = enc n ++ r := by simpa using h
 have e : rdN (xs.drop i) = ((n : Int), ((enc n).length : Int), 0) := by
  have := rdAt_enc (xs.drop i) r 8 n 0 0 (by have : (128 : Nat) ^ 9 = 9223372036854775808 := by decide
                                             omega) (by omega) h2
  unfold rdN
  simpa using this
 unfold rdNum
 rw [if_neg (by simp)]
 dsimp only
 rw [e, if_neg (by simp; omega)]
 simp
theorem num_bw (xs : List Int) (hb : ∀ x ∈ xs, 0 ≤ x ∧ x ≤ 255) : ∀ st v j, rdNum xs st = (v, (j, false)) → (st.2 = false ∧ xs.drop st.1 = encs [v] ++ xs.drop j ∧ j = st.1 + (encs [v]).length) ∧ 0 ≤ v := by
 intro st v j h
 unfold rdNum at h
 by_cases h0 : st.2 = true
 ·
  rw [if_pos h0] at h
  simp only [Prod.mk.injEq] at h
  rw [h.2] at h0
  cases h0
 ·
  rw [if_neg h0] at h
  by_cases h1 : (rdN (xs.drop st.1)).2.2 ≠ 0 ∨ 4398046511104 < (rdN (xs.drop st.1)).1
  ·
   rw [if_pos h1] at h
   simp at h
  ·
   rw [if_neg h1] at h
   simp only [Prod.mk.injEq, and_true] at h
   obtain ⟨e1, e2⟩ := h
   have h3 : (rdN (xs.drop st.1)).2.2 = 0 := Classical.byContradiction fun h => h1 (.inl h)
   obtain ⟨n, h4, _, h5, h6⟩ := rdAt_back (xs.drop st.1) (fun x hx => hb x (List.mem_of_mem_drop hx)) 9 0 0 (rdN (xs.drop st.1)).1 (rdN (xs.drop st.1)).2.1 (show rdN (xs.drop st.1) = _ from Prod.ext rfl (Prod.ext rfl h3))
   have hv : v = (n : Int) := by rw [← e1, h4]; simp
   subst hv
   rw [h5] at e2
   rw [encsK_one, Int.toNat_natCast]
   simp only [Nat.zero_add, Int.toNat_natCast] at e2
   simp only [Nat.zero_add, List.drop_drop, Nat.add_zero] at h6
   refine ⟨⟨by simpa using h0, by rw [h6, ← e2], e2.symm⟩, by omega⟩
theorem up_fw (xs : List Int) {v m : Int} (h0 : 0 ≤ v) (h1 : v ≤ 4398046511104) (h2 : v ≤ m) : Fw xs (rdUp xs m) [v] v := by
 intro i r h
 unfold rdUp
 rw [num_fw xs h0 h1 i r h, if_neg (by simp; omega)]
theorem up_eq {xs : List Int} {m v : Int} {st : RS} {j : Nat} (h : rdUp xs m st = (v, (j, false))) : rdNum xs st = (v, (j, false)) ∧ v ≤ m := by
 unfold rdUp at h
 by_cases h0 : (rdNum xs st).2.2 = true ∨ m < (rdNum xs st).1
 ·
  rw [if_pos h0] at h; simp at h
 ·
  rw [if_neg h0] at h
  refine ⟨h, ?_⟩
  rw [h] at h0
  simp only [Bool.false_eq_true, false_or] at h0
  omega
theorem zag_zig (y : Int) : zag (zig y : Int) = y := by unfold zag zig; split <;> split <;> omega
theorem zig_zag (n : Int) (h : 0 ≤ n) : ((zig (zag n) : Nat) : Int) = n := by unfold zag zig; split <;> split <;> omega
theorem sig_fw (xs : List Int) {y : Int} (h : (zig y : Int) ≤ 4398046511104) : Fw xs (rdSig xs) [(zig y : Int)] y := by
 intro i r hd
 unfold rdSig
 rw [num_fw xs (by omega) h i r hd, zag_zig]
theorem sig_bw (xs : List Int) (hb : ∀ x ∈ xs, 0 ≤ x ∧ x ≤ 255) : Bw xs (rdSig xs) fun y => [(zig y : Int)] := by
 intro st y j h
 unfold rdSig at h
 obtain ⟨⟨v, s⟩, hv⟩ : ∃ r, r = rdNum xs st := ⟨_, rfl⟩
 rw [← hv] at h
 simp only [Prod.mk.injEq] at h
 obtain ⟨rfl, rfl⟩ := h
 obtain ⟨h1, h2⟩ := num_bw xs hb st v j hv.symm
 simp only [zig_zag v h2]
 exact h1
theorem rows_fw {α : Type} (xs : List Int) (one : RS → α × RS) (N : α → List Int) : ∀ (l : List α), (∀ a ∈ l, Fw xs one (N a) a) → ∀ i r, xs.drop i = encs (l.flatMap N) ++ r → rdRows one l.length (i, false) = (l, (i + (encs (l.flatMap N)).length, false)) := by
 intro l
 induction l with
 | nil => intro _ i r _; simp [rdRows, encs]
 | cons a l ih =>
  intro hl i r h
  rw [List.flatMap_cons, encsK_append, List.append_assoc] at h
  have h1 := hl a (by simp) i _ h
  have h2 := ih (fun b hb => hl b (by simp [hb])) _ r (drop_on h)
  rw [List.length_cons, rdRows, if_neg (by simp), h1]
  dsimp only
  rw [h2, List.flatMap_cons, encsK_append, List.length_append, Nat.add_assoc]
theorem rows_bw {α : Type} (xs : List Int) (one : RS → α × RS) (N : α → List Int) (ho : Bw xs one N) : ∀ (n : Nat) (st : RS) (l : List α) (j : Nat), rdRows one n st = (l, (j, false)) → st.2 = false ∧ l.length = n ∧ xs.drop st.1 = encs (l.flatMap N) ++ xs.drop j ∧ j = st.1 + (encs (l.flatMap N)).length := by
 intro n
 induction n with
 | zero =>
  intro st l j h
  simp only [rdRows, Prod.mk.injEq] at h
  obtain ⟨rfl, rfl⟩ := h
  simp [encs]
 | succ n ih =>
  intro st l j h
  rw [rdRows] at h
  by_cases h0 : st.2 = true
  ·
   rw [if_pos h0] at h
   simp only [Prod.mk.injEq] at h
   rw [h.2] at h0
   cases h0
  ·
   rw [if_neg h0] at h
   obtain ⟨⟨a, s⟩, ha⟩ : ∃ r, r = one st := ⟨_, rfl⟩
   rw [← ha] at h
   obtain ⟨⟨l2, s2⟩, hl2⟩ : ∃ r, r = rdRows one n s := ⟨_, rfl⟩
   dsimp only at h
   rw [← hl2] at h
   simp only [Prod.mk.injEq] at h
   obtain ⟨rfl, rfl⟩ := h
   obtain ⟨g1, g2, g3, g4⟩ := ih s l2 j hl2.symm
   obtain ⟨k, bad⟩ := s
   simp only at g1
   subst g1
   obtain ⟨q1, q2, q3⟩ := ho st a k ha.symm
   refine ⟨q1, by rw [List.length_cons, g2], ?_, ?_⟩
   ·
    rw [q2, g3, List.flatMap_cons, encsK_append, List.append_assoc]
   ·
    rw [g4, q3, List.flatMap_cons, encsK_append, List.length_append, Nat.add_assoc]
theorem list_fw {α : Type} (xs : List Int) (one : RS → α × RS) (N : α → List Int) (m : Int) (l : List α) (hm : (l.length : Int) ≤ m) (h42 : (l.length : Int) ≤ 4398046511104) (hl : ∀ a ∈ l, Fw xs one (N a) a) : Fw xs (rdList xs m one) ([(l.length : Int)] ++ l.flatMap N) l := by
 intro i r h
 rw [encsK_append, List.append_assoc] at h
 unfold rdList
 rw [up_fw xs (by omega) h42 hm i _ h]
 dsimp only
 rw [Int.toNat_natCast, rows_fw xs one N l hl _ r (drop_on h), encsK_append, List.length_append, Nat.add_assoc]
theorem list_bw {α : Type} (xs : List Int) (hb : ∀ x ∈ xs, 0 ≤ x ∧ x ≤ 255) (one : RS → α × RS) (N : α → List Int) (m : Int) (ho : Bw xs one N) : Bw xs (rdList xs m one) fun l => [(l.length : Int)] ++ l.flatMap N := by
 intro st l j h
 unfold rdList at h
 obtain ⟨⟨v, s⟩, hv⟩ : ∃ r, r = rdUp xs m st := ⟨_, rfl⟩
 rw [← hv] at h
 dsimp only at h
 obtain ⟨g1, g2, g3, g4⟩ := rows_bw xs one N ho _ _ _ _ h
 obtain ⟨k, bad⟩ := s
 simp only at g1
 subst g1
 obtain ⟨⟨q1, q2, q3⟩, q4⟩ := num_bw xs hb st v k (up_eq hv.symm).1
 have e : v = (l.length : Int) := by omega
 subst e
 refine ⟨q1, ?_, ?_⟩
 ·
  rw [q2, g3]
  simp only [encsK_append, List.append_assoc]
 ·
  rw [g4, q3]
  simp only [encsK_append, List.length_append]
  omega
end Go.Proofs.YtgfmdgiepomkiaaGreat

namespace Go.Proofs.YtgfmdgiepomkiaaGreat
open Go.RowKit

def colL : List Int → List Int → List Int
 | y :: ys, t :: ts => (zig y : Int) :: (t - y) :: colL ys ts
 | _, _ => []
theorem colL_range : ∀ (ys ts : List Int), ts.length = ys.length → ((List.range ys.length).flatMap fun k => [(zig (ys.getD k 0) : Int), ts.getD k 0 - ys.getD k 0]) = colL ys ts := by
 intro ys
 induction ys with
 | nil =>
  intro ts h
  rw [List.length_eq_zero_iff.1 h]
  rfl
 | cons y ys ih =>
  intro ts h
  match ts, h with
  | t :: ts, h =>
   have h2 := ih ts (by simpa using h)
   rw [List.length_cons, List.range_succ_eq_map, List.flatMap_cons, List.flatMap_map, colL, ← h2]
   simp
theorem colsN_L {r : Rc} (h : r.ts.length = r.ys.length) : colsN r r.ys.length = colL r.ys r.ts := colL_range r.ys r.ts h
theorem encs2 (a b : Int) (l : List Int) : encs (a :: b :: l) = encs [a] ++ (encs [b] ++ encs l) := by simp [encs]
theorem fl_fw (xs : List Int) : ∀ (ys ts : List Int), ts.length = ys.length → (∀ k, k < ys.length → ((zig (ys.getD k 0) : Nat) : Int) ≤ 4398046511104 ∧ ys.getD k 0 ≤ ts.getD k 0 ∧ ts.getD k 0 - ys.getD k 0 ≤ 4398046511104) → ∀ i r, xs.drop i = encs (colL ys ts) ++ r → rdFl xs ys.length (i, false) = (ys, ts, (i + (encs (colL ys ts)).length, false)) := by
 intro ys
 induction ys with
 | nil =>
  intro ts h _ i r _
  rw [List.length_eq_zero_iff.1 h]
  simp [rdFl, colL, encs]
 | cons y ys ih =>
  intro ts h hb i r hd
  match ts, h with
  | t :: ts, h =>
   rw [colL, encs2, List.append_assoc, List.append_assoc] at hd
   obtain ⟨b1, b2, b3⟩ := hb 0 (by simp)
   simp only [List.getD_cons_zero] at b1 b2 b3
   have h1 := sig_fw xs b1 i _ hd
   have h2 := num_fw xs (v := t - y) (by omega) b3 _ _ (drop_on hd)
   have h3 := ih ts (by simpa using h) (fun k hk => by have := hb (k + 1) (by simpa using hk); simpa using this) _ r (drop_on (drop_on hd))
   rw [List.length_cons, rdFl_good rfl, h1]
   dsimp only
   rw [h2]
   dsimp only
   rw [h3, colL, encs2]
   simp only [List.length_append, Prod.mk.injEq, List.cons.injEq, true_and, and_true]
   omega
theorem fl_bw (xs : List Int) (hb : ∀ x ∈ xs, 0 ≤ x ∧ x ≤ 255) : ∀ (k : Nat) (st : RS) (ys ts : List Int) (j : Nat), rdFl xs k st = (ys, ts, (j, false)) → st.2 = false ∧ ys.length = k ∧ ts.length = k ∧ xs.drop st.1 = encs (colL ys ts) ++ xs.drop j ∧ j = st.1 + (encs (colL ys ts)).length := by
 intro k
 induction k with
 | zero =>
  intro st ys ts j h
  simp only [rdFl, Prod.mk.injEq] at h
  obtain ⟨rfl, rfl, rfl⟩ := h
  simp [colL, encs]
 | succ k ih =>
  intro st ys ts j h
  cases h0 : st.2 with
  | true =>
   rw [rdFl_bad h0] at h
   simp only [Prod.mk.injEq] at h
   rw [h.2.2] at h0
   cases h0
  | false =>
   rw [rdFl_good h0] at h
   obtain ⟨⟨y, s⟩, hy⟩ : ∃ r, r = rdSig xs st := ⟨_, rfl⟩
   rw [← hy] at h
   dsimp only at h
   obtain ⟨⟨t, s2⟩, ht⟩ : ∃ r, r = rdNum xs s := ⟨_, rfl⟩
   rw [← ht] at h
   dsimp only at h
   obtain ⟨⟨ys2, ts2, s3⟩, hr⟩ : ∃ r, r = rdFl xs k s2 := ⟨_, rfl⟩
   rw [← hr] at h
   simp only [Prod.mk.injEq] at h
   obtain ⟨rfl, rfl, rfl⟩ := h
   obtain ⟨g1, g2, g3, g4, g5⟩ := ih s2 ys2 ts2 j hr.symm
   obtain ⟨k2, b2⟩ := s2
   simp only at g1
   subst g1
   obtain ⟨⟨q1, q2, q3⟩, _⟩ := num_bw xs hb s t k2 ht.symm
   obtain ⟨k1, b1⟩ := s
   simp only at q1
   subst q1
   obtain ⟨p1, p2, p3⟩ := sig_bw xs hb st y k1 hy.symm
   refine ⟨rfl, by rw [List.length_cons, g2], by rw [List.length_cons, g3], ?_, ?_⟩
   ·
    rw [p2, q2, g4, colL, encs2, show y + t - y = t by omega]
    simp only [List.append_assoc]
   ·
    rw [g5, q3, p3, colL, encs2, show y + t - y = t by omega]
    simp only [List.length_append]
    omega
theorem encs5 (a b c d e : Int) (l : List Int) : encs ([a, b, c, d, e] ++ l) = encs [a] ++ (encs [b] ++ (encs [c] ++ (encs [d] ++ (encs [e] ++ encs l)))) := by simp [encs]
theorem rct_fw (xs : List Int) {cf : Cfg} {r : Rc} (h : rcE cf r = 0) (hw : r.x1 - r.x0 ≤ 7) (hd : r.z1 - r.z0 ≤ 7) : Fw xs (rdRct xs) (rcNs r) r := by
 intro i rest hx
 obtain ⟨u1, u2, u3, u4, u5, u6, u7, u8⟩ := rcBd_iff.1 (rcOk_bd h)
 obtain ⟨hts, _⟩ := rc_lens h
 have hcell := fun k hk => rc_cell h (k := k) hk
 have hlen : r.ys.length = rcN r := by
  have ho := (rcE_zero.1 h).2
  unfold rcOk rcLens at ho
  simp only [Bool.and_eq_true, decide_eq_true_eq] at ho
  exact ho.1.2.1
 unfold rcNs rcN5 at hx ⊢
 rw [colsN_L hts, encs5, List.append_assoc, List.append_assoc, List.append_assoc, List.append_assoc, List.append_assoc] at hx
 have h1 := num_fw xs (v := r.x0) (by omega) (by omega) i _ hx
 have h2 := num_fw xs (v := r.z0) (by omega) (by omega) _ _ (drop_on hx)
 have h3 := up_fw xs (v := r.x1 - r.x0) (m := 7) (by omega) (by omega) (by omega) _ _ (drop_on (drop_on hx))
 have h4 := up_fw xs (v := r.z1 - r.z0) (m := 7) (by omega) (by omega) (by omega) _ _ (drop_on (drop_on (drop_on hx)))
 have h5 := num_fw xs (v := r.area) (by omega) (by omega) _ _ (drop_on (drop_on (drop_on (drop_on hx))))
 have h6 : rd6 xs (i, false) = (⟨r.x0, r.z0, r.x1 - r.x0, r.z1 - r.z0, r.area⟩, (i + (encs [r.x0]).length + (encs [r.z0]).length + (encs [r.x1 - r.x0]).length + (encs [r.z1 - r.z0]).length + (encs [r.area]).length, false)) := by
  unfold rd6
  rw [h1]
  dsimp only
  rw [h2]
  dsimp only
  rw [h3]
  dsimp only
  rw [h4]
  dsimp only
  rw [h5]
 have h7 : cnt6 ⟨r.x0, r.z0, r.x1 - r.x0, r.z1 - r.z0, r.area⟩ = r.ys.length := by rw [hlen]; rfl
 have h8 := fl_fw xs r.ys r.ts hts (fun k hk => by
  obtain ⟨a, b, c⟩ := hcell k hk
  have hz := zigB_le a
  omega) _ rest (drop_on (drop_on (drop_on (drop_on (drop_on hx)))))
 unfold rdRct
 rw [h6]
 dsimp only
 rw [h7, h8, colsN_L hts, encs5]
 simp only [List.length_append]
 obtain ⟨x0, z0, x1, z1, ar, ys, ts⟩ := r
 simp only [Prod.mk.injEq, Rc.mk.injEq, true_and, and_true]
 refine ⟨⟨by omega, by omega⟩, by omega⟩
theorem rct_bw (xs : List Int) (hb : ∀ x ∈ xs, 0 ≤ x ∧ x ≤ 255) : Bw xs (rdRct xs) rcNs := by
 intro st r j h
 unfold rdRct at h
 simp only [Prod.mk.injEq] at h
 obtain ⟨rfl, h⟩ := h
 obtain ⟨⟨ys, ts, s⟩, hf⟩ : ∃ q, q = rdFl xs (cnt6 (rd6 xs st).1) (rd6 xs st).2 := ⟨_, rfl⟩
 rw [← hf] at h ⊢
 simp only at h
 subst h
 obtain ⟨⟨⟨x, z, w, d, ar⟩, s5⟩, h6⟩ : ∃ q, q = rd6 xs st := ⟨_, rfl⟩
 rw [← h6] at hf ⊢
 dsimp only at hf ⊢
 obtain ⟨g1, g2, g3, g4, g5⟩ := fl_bw xs hb _ _ _ _ _ hf.symm
 obtain ⟨k5, b5⟩ := s5
 simp only at g1
 subst g1
 unfold rd6 at h6
 simp only [Prod.mk.injEq, Rc6.mk.injEq] at h6
 obtain ⟨⟨e1, e2, e3, e4, e5⟩, e6⟩ := h6
 obtain ⟨⟨v1, s1⟩, q1⟩ : ∃ q, q = rdNum xs st := ⟨_, rfl⟩
 rw [← q1] at e1 e2 e3 e4 e5 e6
 dsimp only at e1 e2 e3 e4 e5 e6
 obtain ⟨⟨v2, s2⟩, q2⟩ : ∃ q, q = rdNum xs s1 := ⟨_, rfl⟩
 rw [← q2] at e2 e3 e4 e5 e6
 dsimp only at e2 e3 e4 e5 e6
 obtain ⟨⟨v3, s3⟩, q3⟩ : ∃ q, q = rdUp xs 7 s2 := ⟨_, rfl⟩
 rw [← q3] at e3 e4 e5 e6
 dsimp only at e3 e4 e5 e6
 obtain ⟨⟨v4, s4⟩, q4⟩ : ∃ q, q = rdUp xs 7 s3 := ⟨_, rfl⟩
 rw [← q4] at e4 e5 e6
 dsimp only at e4 e5 e6
 obtain ⟨⟨v5, s6⟩, q5⟩ : ∃ q, q = rdNum xs s4 := ⟨_, rfl⟩
 rw [← q5] at e5 e6
 dsimp only at e5 e6
 subst e1 e2 e3 e4 e5 e6
 obtain ⟨⟨b1, c1, d1⟩, _⟩ := num_bw xs hb _ _ _ q5.symm
 obtain ⟨k4, b4⟩ := s4
 simp only at b1
 subst b1
 obtain ⟨⟨b1, c2, d2⟩, _⟩ := num_bw xs hb _ _ _ (up_eq q4.symm).1
 obtain ⟨k3, b3⟩ := s3
 simp only at b1
 subst b1
 obtain ⟨⟨b1, c3, d3⟩, _⟩ := num_bw xs hb _ _ _ (up_eq q3.symm).1
 obtain ⟨k2, b2⟩ := s2
 simp only at b1
 subst b1
 obtain ⟨⟨b1, c4, d4⟩, _⟩ := num_bw xs hb _ _ _ q2.symm
 obtain ⟨k1, b0⟩ := s1
 simp only at b1
 subst b1
 obtain ⟨⟨b1, c5, d5⟩, _⟩ := num_bw xs hb _ _ _ q1.symm
 simp only at c1 c2 c3 c4 c5 d1 d2 d3 d4 d5 g4 g5
 refine ⟨b1, ?_, ?_⟩
 ·
  unfold rcNs rcN5
  rw [colsN_L (by dsimp only; rw [g2, g3]), encs5]
  dsimp only
  rw [show x + w - x = w by omega, show z + d - z = d by omega, c5, c4, c3, c2, c1, g4]
  simp only [List.append_assoc]
 ·
  unfold rcNs rcN5
  rw [colsN_L (by dsimp only; rw [g2, g3]), encs5]
  dsimp only
  rw [show x + w - x = w by omega, show z + d - z = d by omega]
  simp only [List.length_append]
  omega
theorem encs3 (a b c : Int) (l : List Int) : encs ([a, b, c] ++ l) = encs [a] ++ (encs [b] ++ encs ([c] ++ l)) := by simp [encs]
/-- What stands in a tile lies within its eight columns. -/
theorem tl_w {cf : Cfg} {tx tz : Int} {rs : List Rc} {ds : List Dr} (h : tlE cf tx tz rs ds = 0) : cfgOk cf = true ∧ (∀ r ∈ rs, r.x1 - r.x0 ≤ 7 ∧ r.z1 - r.z0 ≤ 7) ∧ bldE cf rs = 0 ∧ allQ cf rs rs.length = ds := by
 unfold tlE at h
 by_cases hc : cfgOk cf = true
 ·
  rw [if_pos hc] at h
  by_cases ho : tlOk cf tx tz rs ds = true
  ·
   unfold tlOk at ho
   simp only [Bool.and_eq_true, decide_eq_true_eq] at ho
   obtain ⟨⟨_, h3⟩, h4, h5⟩ := ho
   refine ⟨hc, fun r hr => ?_, h4, h5⟩
   obtain ⟨i, hi, rfl⟩ := List.getElem_of_mem hr
   unfold stepsP at h3
   rw [List.all_eq_true] at h3
   have h4 := h3 i (List.mem_range.2 hi)
   unfold stepP oneT inT at h4
   simp only [Bool.and_eq_true, decide_eq_true_eq] at h4
   have := h4.1.2
   rw [List.getD_eq_getElem?_getD, List.getElem?_eq_getElem hi] at this
   simp only [Option.getD_some] at this
   omega
  ·
   rw [if_neg ho] at h; cases h
 ·
  rw [if_neg hc] at h; cases h
theorem colL_len (ys ts : List Int) : (colL ys ts).length ≤ 2 * ys.length := by
 induction ys generalizing ts with
 | nil => simp [colL]
 | cons y ys ih =>
  cases ts with
  | nil => simp [colL]
  | cons t ts =>
   have := ih ts
   simp only [colL, List.length_cons]
   omega
theorem rcNs_len {cf : Cfg} {r : Rc} (h : rcE cf r = 0) (hw : r.x1 - r.x0 ≤ 7) (hd : r.z1 - r.z0 ≤ 7) : (rcNs r).length ≤ 133 := by
 obtain ⟨hts, _⟩ := rc_lens h
 obtain ⟨u1, u2, u3, u4, u5, u6, u7, u8⟩ := rcBd_iff.1 (rcOk_bd h)
 have hlen : r.ys.length = rcN r := by
  have ho := (rcE_zero.1 h).2
  unfold rcOk rcLens at ho
  simp only [Bool.and_eq_true, decide_eq_true_eq] at ho
  exact ho.1.2.1
 have h64 : rcN r ≤ 64 := by
  have p2 : (r.x1 - r.x0 + 1) * (r.z1 - r.z0 + 1) ≤ 8 * 8 := Int.mul_le_mul (by omega) (by omega) (by omega) (by omega)
  unfold rcN
  omega
 unfold rcNs rcN5
 rw [colsN_L hts, List.length_append]
 have := colL_len r.ys r.ts
 simp only [List.length_cons, List.length_nil]
 omega
theorem flat_le {α : Type} {f : α → List Int} {m : Nat} : ∀ (l : List α), (∀ x ∈ l, (f x).length ≤ m) → (l.flatMap f).length ≤ m * l.length := by
 intro l
 induction l with
 | nil => simp
 | cons a l ih =>
  intro h
  have h1 := h a (by simp)
  have h2 := ih fun x hx => h x (by simp [hx])
  rw [List.flatMap_cons, List.length_append, List.length_cons, Nat.mul_add]
  omega
theorem tile_len {cf : Cfg} {tx tz : Int} {rs : List Rc} {ds : List Dr} (h : tlE cf tx tz rs ds = 0) (hF : TileF cf tx tz rs) : (encs (tileN tx tz rs)).length ≤ 114939 := by
 obtain ⟨_, hw, _, _⟩ := tl_w h
 have hn := hF.n
 have h1 := flat_le (f := rcNs) (m := 133) rs fun r hr => rcNs_len (hF.r r hr) (hw r hr).1 (hw r hr).2
 have h2 : (tileN tx tz rs).length ≤ 12771 := by
  unfold tileN
  rw [List.length_append]
  simp only [List.length_cons, List.length_nil]
  omega
 have h3 := encs_length_le (tileN tx tz rs) (fun x hx => by
  unfold tileN at hx
  rcases List.mem_append.1 hx with hx | hx
  ·
   simp only [List.mem_cons, List.not_mem_nil, or_false] at hx
   have := hF.x; have := hF.z
   omega
  ·
   obtain ⟨r, hr, hx⟩ := List.mem_flatMap.1 hx
   unfold rcNs at hx
   rcases List.mem_append.1 hx with hx | hx
   ·
    have := rcN5_ok (hF.r r hr) x hx; unfold nOkB at this; omega
   ·
    unfold colsN at hx
    obtain ⟨k, hk, hx⟩ := List.mem_flatMap.1 hx
    have := cellN_ok (hF.r r hr) (List.mem_range.1 hk) x hx; unfold nOkB at this; omega)
 omega
theorem tile_fw {cf : Cfg} {tx tz : Int} {rs : List Rc} {ds : List Dr} (h : tlE cf tx tz rs ds = 0) (hF : TileF cf tx tz rs) (more : List Int) (hm : more.length ≤ 1000) : rdTile cf (encs (tileN tx tz rs) ++ more) = ((tx, tz, rs, ds), ((encs (tileN tx tz rs)).length : Int), 0) := by
 obtain ⟨hc, hw, hE, hQ⟩ := tl_w h
 have hlen := tile_len h hF
 obtain ⟨xs, hxs⟩ : ∃ xs, xs = encs (tileN tx tz rs) ++ more := ⟨_, rfl⟩
 have hd : xs.drop 0 = encs (tileN tx tz rs) ++ more := by rw [hxs]; rfl
 have hxl : xs.length ≤ 131072 := by rw [hxs, List.length_append]; omega
 rw [← hxs]
 unfold tileN at hd ⊢
 rw [encs3, List.append_assoc, List.append_assoc] at hd
 have hx1 := hF.x
 have hz1 := hF.z
 have hn := hF.n
 have h1 := num_fw xs (v := tx) (by omega) (by omega) _ _ hd
 have h2 := num_fw xs (v := tz) (by omega) (by omega) _ _ (drop_on hd)
 have h3 := list_fw xs (rdRct xs) rcNs 96 rs (by omega) (by omega) (fun r hr => rct_fw xs (hF.r r hr) (hw r hr).1 (hw r hr).2) _ _ (drop_on (drop_on hd))
 unfold rdTile
 rw [if_pos hc, if_neg (by omega), h1]
 dsimp only
 rw [h2]
 dsimp only
 rw [h3]
 dsimp only
 rw [if_neg (by rw [hE, hQ, h]; simp), hQ, encs3]
 simp only [List.length_append, Prod.mk.injEq, true_and, and_true]
 omega
theorem tile_bw {cf : Cfg} {xs : List Int} (hb : ∀ x ∈ xs, 0 ≤ x ∧ x ≤ 255) {X Z u : Int} {rs : List Rc} {ds : List Dr} (h : rdTile cf xs = ((X, Z, rs, ds), u, 0)) : tlE cf X Z rs ds = 0 ∧ ∃ n : Nat, u = (n : Int) ∧ n ≤ xs.length ∧ encs (tileN X Z rs) = xs.take n := by
 unfold rdTile at h
 by_cases hc : cfgOk cf = true
 case neg => rw [if_neg hc] at h; simp at h
 rw [if_pos hc] at h
 by_cases hl : 131072 < xs.length
 ·
  rw [if_pos hl] at h; simp at h
 rw [if_neg hl] at h
 obtain ⟨⟨v1, s1⟩, q1⟩ : ∃ q, q = rdNum xs (0, false) := ⟨_, rfl⟩
 rw [← q1] at h
 dsimp only at h
 obtain ⟨⟨v2, s2⟩, q2⟩ : ∃ q, q = rdNum xs s1 := ⟨_, rfl⟩
 rw [← q2] at h
 dsimp only at h
 obtain ⟨⟨l, s3⟩, q3⟩ : ∃ q, q = rdList xs 96 (rdRct xs) s2 := ⟨_, rfl⟩
 rw [← q3] at h
 dsimp only at h
 by_cases hbad : s3.2 = true ∨ bldE cf l ≠ 0 ∨ tlE cf v1 v2 l (allQ cf l l.length) ≠ 0
 ·
  rw [if_pos hbad] at h; simp at h
 rw [if_neg hbad] at h
 simp only [Prod.mk.injEq, and_true] at h
 obtain ⟨⟨rfl, rfl, rfl, rfl⟩, rfl⟩ := h
 obtain ⟨k3, b3⟩ := s3
 cases b3 with
 | true => exact absurd (.inl rfl) hbad
 | false =>
 obtain ⟨b1, c1, d1⟩ := list_bw xs hb (rdRct xs) rcNs 96 (rct_bw xs hb) _ _ _ q3.symm
 obtain ⟨k2, b2⟩ := s2
 simp only at b1
 subst b1
 obtain ⟨⟨b1, c2, d2⟩, _⟩ := num_bw xs hb _ _ _ q2.symm
 obtain ⟨k1, b0⟩ := s1
 simp only at b1
 subst b1
 obtain ⟨⟨_, c3, d3⟩, _⟩ := num_bw xs hb _ _ _ q1.symm
 simp only at c1 c2 c3 d1 d2 d3
 refine ⟨Classical.byContradiction fun h => hbad (.inr (.inr h)), k3, rfl, ?_, ?_⟩
 ·
  have := congrArg List.length c1
  have h2 := congrArg List.length c2
  have h3 := congrArg List.length c3
  simp only [List.length_append, List.length_drop] at this h2 h3
  omega
 ·
  have e : xs = encs (tileN v1 v2 l) ++ xs.drop k3 := by
   unfold tileN
   rw [encs3]
   simp only [List.append_assoc]
   rw [← c1, ← c2, ← c3]
   rfl
  have e2 : k3 = (encs (tileN v1 v2 l)).length := by
   unfold tileN
   rw [encs3]
   simp only [List.length_append] at d1 d2 d3 ⊢
   omega
  rw [e, e2, List.take_left]
end Go.Proofs.YtgfmdgiepomkiaaGreat

namespace Go.Proofs.YtgfmdgiepomkiaaGreat
open Go.RowKit

theorem zig_small {n : Int} (h : -2048 ≤ n ∧ n ≤ 2048) : ((zig n : Nat) : Int) ≤ 4398046511104 := by unfold zig; split <;> omega

theorem vtx_encs (t : Vtx) : encs (vtxN t) = encs [t.x] ++ (encs [((zig t.y : Nat) : Int)] ++ (encs [t.z])) := by
 unfold vtxN
 simp [encs]

theorem vtx_fw (xs : List Int) {t : Vtx} (h : VtxF t) : Fw xs (rdVtx xs) (vtxN t) t := by
 intro i r hx
 rw [vtx_encs] at hx ⊢
 simp only [List.append_assoc] at hx
 unfold VtxF at h
 have h1 := num_fw xs (v := t.x) (by omega) (by omega) _ _ (hx)
 have h2 := sig_fw xs (y := t.y) (zig_small h.2.1) _ _ (drop_on (hx))
 have h3 := num_fw xs (v := t.z) (by omega) (by omega) _ _ (drop_on (drop_on (hx)))
 unfold rdVtx
 (try dsimp only)
 rw [h1]
 dsimp only
 rw [h2]
 dsimp only
 rw [h3]
 dsimp only
 simp only [List.length_append]
 obtain ⟨tx, ty, tz⟩ := t
 refine Prod.ext rfl (Prod.ext ?_ rfl)
 dsimp only
 omega

theorem vtx_bw (xs : List Int) (hb : ∀ x ∈ xs, 0 ≤ x ∧ x ≤ 255) : Bw xs (rdVtx xs) vtxN := by
 intro st t j h
 unfold rdVtx at h
 (try dsimp only at h)
 obtain ⟨⟨v1, s1⟩, q1⟩ : ∃ q, q = rdNum xs st := ⟨_, rfl⟩
 rw [← q1] at h
 dsimp only at h
 obtain ⟨⟨v2, s2⟩, q2⟩ : ∃ q, q = rdSig xs s1 := ⟨_, rfl⟩
 rw [← q2] at h
 dsimp only at h
 obtain ⟨⟨v3, s3⟩, q3⟩ : ∃ q, q = rdNum xs s2 := ⟨_, rfl⟩
 rw [← q3] at h
 dsimp only at h
 simp only [Prod.mk.injEq] at h
 obtain ⟨rfl, rfl⟩ := h
 obtain ⟨b1, c3, d3⟩ := (num_bw xs hb _ _ _ q3.symm).1
 obtain ⟨k2, bb2⟩ := s2
 simp only at b1
 subst b1
 obtain ⟨b1, c2, d2⟩ := sig_bw xs hb _ _ _ q2.symm
 obtain ⟨k1, bb1⟩ := s1
 simp only at b1
 subst b1
 obtain ⟨b1, c1, d1⟩ := (num_bw xs hb _ _ _ q1.symm).1
 simp only at c1 d1 c2 d2 c3 d3
 refine ⟨b1, ?_, ?_⟩
 ·
  rw [vtx_encs]
  dsimp only
  rw [c1, c2, c3]
  simp only [List.append_assoc]
 ·
  rw [vtx_encs]
  dsimp only
  simp only [List.length_append]
  omega

theorem tri_encs (t : Tri3) : encs (triN t) = encs [t.id] ++ (encs (vtxN t.v0) ++ (encs (vtxN t.v1) ++ (encs (vtxN t.v2)))) := by
 unfold triN vtxN
 simp [encs]

theorem tri_fw (xs : List Int) {t : Tri3} (h : TriF t) : Fw xs (rdTri xs) (triN t) t := by
 intro i r hx
 rw [tri_encs] at hx ⊢
 simp only [List.append_assoc] at hx
 unfold TriF at h
 have h1 := num_fw xs (v := t.id) (by omega) (by omega) _ _ (hx)
 have h2 := vtx_fw xs h.2.1 _ _ (drop_on (hx))
 have h3 := vtx_fw xs h.2.2.1 _ _ (drop_on (drop_on (hx)))
 have h4 := vtx_fw xs h.2.2.2 _ _ (drop_on (drop_on (drop_on (hx))))
 unfold rdTri
 (try dsimp only)
 rw [h1]
 dsimp only
 rw [h2]
 dsimp only
 rw [h3]
 dsimp only
 rw [h4]
 dsimp only
 simp only [List.length_append]
 obtain ⟨ti, t0, t1, t2⟩ := t
 refine Prod.ext rfl (Prod.ext ?_ rfl)
 dsimp only
 omega

theorem tri_bw (xs : List Int) (hb : ∀ x ∈ xs, 0 ≤ x ∧ x ≤ 255) : Bw xs (rdTri xs) triN := by
 intro st t j h
 unfold rdTri at h
 (try dsimp only at h)
 obtain ⟨⟨v1, s1⟩, q1⟩ : ∃ q, q = rdNum xs st := ⟨_, rfl⟩
 rw [← q1] at h
 dsimp only at h
 obtain ⟨⟨v2, s2⟩, q2⟩ : ∃ q, q = rdVtx xs s1 := ⟨_, rfl⟩
 rw [← q2] at h
 dsimp only at h
 obtain ⟨⟨v3, s3⟩, q3⟩ : ∃ q, q = rdVtx xs s2 := ⟨_, rfl⟩
 rw [← q3] at h
 dsimp only at h
 obtain ⟨⟨v4, s4⟩, q4⟩ : ∃ q, q = rdVtx xs s3 := ⟨_, rfl⟩
 rw [← q4] at h
 dsimp only at h
 simp only [Prod.mk.injEq] at h
 obtain ⟨rfl, rfl⟩ := h
 obtain ⟨b1, c4, d4⟩ := vtx_bw xs hb _ _ _ q4.symm
 obtain ⟨k3, bb3⟩ := s3
 simp only at b1
 subst b1
 obtain ⟨b1, c3, d3⟩ := vtx_bw xs hb _ _ _ q3.symm
 obtain ⟨k2, bb2⟩ := s2
 simp only at b1
 subst b1
 obtain ⟨b1, c2, d2⟩ := vtx_bw xs hb _ _ _ q2.symm
 obtain ⟨k1, bb1⟩ := s1
 simp only at b1
 subst b1
 obtain ⟨b1, c1, d1⟩ := (num_bw xs hb _ _ _ q1.symm).1
 simp only at c1 d1 c2 d2 c3 d3 c4 d4
 refine ⟨b1, ?_, ?_⟩
 ·
  rw [tri_encs]
  dsimp only
  rw [c1, c2, c3, c4]
  simp only [List.append_assoc]
 ·
  rw [tri_encs]
  dsimp only
  simp only [List.length_append]
  omega

theorem bx_encs (t : Bx) : encs (bxN t) = encs [t.id] ++ (encs [t.x0] ++ (encs [t.z0] ++ (encs [t.x1] ++ (encs [t.z1] ++ (encs [((zig t.y0 : Nat) : Int)] ++ (encs [((zig t.y1 : Nat) : Int)] ++ (encs [t.area]))))))) := by
 unfold bxN
 simp [encs]

theorem bx_fw (xs : List Int) {t : Bx} (h : BxF t) : Fw xs (rdBx xs) (bxN t) t := by
 intro i r hx
 rw [bx_encs] at hx ⊢
 simp only [List.append_assoc] at hx
 unfold BxF at h
 have h1 := num_fw xs (v := t.id) (by omega) (by omega) _ _ (hx)
 have h2 := num_fw xs (v := t.x0) (by omega) (by omega) _ _ (drop_on (hx))
 have h3 := num_fw xs (v := t.z0) (by omega) (by omega) _ _ (drop_on (drop_on (hx)))
 have h4 := num_fw xs (v := t.x1) (by omega) (by omega) _ _ (drop_on (drop_on (drop_on (hx))))
 have h5 := num_fw xs (v := t.z1) (by omega) (by omega) _ _ (drop_on (drop_on (drop_on (drop_on (hx)))))
 have h6 := sig_fw xs (y := t.y0) (zig_small h.2.2.2.2.2.1) _ _ (drop_on (drop_on (drop_on (drop_on (drop_on (hx))))))
 have h7 := sig_fw xs (y := t.y1) (zig_small h.2.2.2.2.2.2.1) _ _ (drop_on (drop_on (drop_on (drop_on (drop_on (drop_on (hx)))))))
 have h8 := num_fw xs (v := t.area) (by omega) (by omega) _ _ (drop_on (drop_on (drop_on (drop_on (drop_on (drop_on (drop_on (hx))))))))
 unfold rdBx
 (try dsimp only)
 rw [h1]
 dsimp only
 rw [h2]
 dsimp only
 rw [h3]
 dsimp only
 rw [h4]
 dsimp only
 rw [h5]
 dsimp only
 rw [h6]
 dsimp only
 rw [h7]
 dsimp only
 rw [h8]
 dsimp only
 simp only [List.length_append]
 obtain ⟨t0, t1, t2, t3, t4, t5, t6, t7⟩ := t
 refine Prod.ext rfl (Prod.ext ?_ rfl)
 dsimp only
 omega

theorem bx_bw (xs : List Int) (hb : ∀ x ∈ xs, 0 ≤ x ∧ x ≤ 255) : Bw xs (rdBx xs) bxN := by
 intro st t j h
 unfold rdBx at h
 (try dsimp only at h)
 obtain ⟨⟨v1, s1⟩, q1⟩ : ∃ q, q = rdNum xs st := ⟨_, rfl⟩
 rw [← q1] at h
 dsimp only at h
 obtain ⟨⟨v2, s2⟩, q2⟩ : ∃ q, q = rdNum xs s1 := ⟨_, rfl⟩
 rw [← q2] at h
 dsimp only at h
 obtain ⟨⟨v3, s3⟩, q3⟩ : ∃ q, q = rdNum xs s2 := ⟨_, rfl⟩
 rw [← q3] at h
 dsimp only at h
 obtain ⟨⟨v4, s4⟩, q4⟩ : ∃ q, q = rdNum xs s3 := ⟨_, rfl⟩
 rw [← q4] at h
 dsimp only at h
 obtain ⟨⟨v5, s5⟩, q5⟩ : ∃ q, q = rdNum xs s4 := ⟨_, rfl⟩
 rw [← q5] at h
 dsimp only at h
 obtain ⟨⟨v6, s6⟩, q6⟩ : ∃ q, q = rdSig xs s5 := ⟨_, rfl⟩
 rw [← q6] at h
 dsimp only at h
 obtain ⟨⟨v7, s7⟩, q7⟩ : ∃ q, q = rdSig xs s6 := ⟨_, rfl⟩
 rw [← q7] at h
 dsimp only at h
 obtain ⟨⟨v8, s8⟩, q8⟩ : ∃ q, q = rdNum xs s7 := ⟨_, rfl⟩
 rw [← q8] at h
 dsimp only at h
 simp only [Prod.mk.injEq] at h
 obtain ⟨rfl, rfl⟩ := h
 obtain ⟨b1, c8, d8⟩ := (num_bw xs hb _ _ _ q8.symm).1
 obtain ⟨k7, bb7⟩ := s7
 simp only at b1
 subst b1
 obtain ⟨b1, c7, d7⟩ := sig_bw xs hb _ _ _ q7.symm
 obtain ⟨k6, bb6⟩ := s6
 simp only at b1
 subst b1
 obtain ⟨b1, c6, d6⟩ := sig_bw xs hb _ _ _ q6.symm
 obtain ⟨k5, bb5⟩ := s5
 simp only at b1
 subst b1
 obtain ⟨b1, c5, d5⟩ := (num_bw xs hb _ _ _ q5.symm).1
 obtain ⟨k4, bb4⟩ := s4
 simp only at b1
 subst b1
 obtain ⟨b1, c4, d4⟩ := (num_bw xs hb _ _ _ q4.symm).1
 obtain ⟨k3, bb3⟩ := s3
 simp only at b1
 subst b1
 obtain ⟨b1, c3, d3⟩ := (num_bw xs hb _ _ _ q3.symm).1
 obtain ⟨k2, bb2⟩ := s2
 simp only at b1
 subst b1
 obtain ⟨b1, c2, d2⟩ := (num_bw xs hb _ _ _ q2.symm).1
 obtain ⟨k1, bb1⟩ := s1
 simp only at b1
 subst b1
 obtain ⟨b1, c1, d1⟩ := (num_bw xs hb _ _ _ q1.symm).1
 simp only at c1 d1 c2 d2 c3 d3 c4 d4 c5 d5 c6 d6 c7 d7 c8 d8
 refine ⟨b1, ?_, ?_⟩
 ·
  rw [bx_encs]
  dsimp only
  rw [c1, c2, c3, c4, c5, c6, c7, c8]
  simp only [List.append_assoc]
 ·
  rw [bx_encs]
  dsimp only
  simp only [List.length_append]
  omega

theorem spt_encs (t : Spt) : encs (sptN t) = encs [t.x] ++ (encs [t.z] ++ (encs [((zig t.y : Nat) : Int)])) := by
 unfold sptN
 simp [encs]

theorem spt_fw (xs : List Int) {t : Spt} (h : SptF t) : Fw xs (rdSpt xs) (sptN t) t := by
 intro i r hx
 rw [spt_encs] at hx ⊢
 simp only [List.append_assoc] at hx
 unfold SptF at h
 have h1 := num_fw xs (v := t.x) (by omega) (by omega) _ _ (hx)
 have h2 := num_fw xs (v := t.z) (by omega) (by omega) _ _ (drop_on (hx))
 have h3 := sig_fw xs (y := t.y) (zig_small h.2.2) _ _ (drop_on (drop_on (hx)))
 unfold rdSpt
 (try dsimp only)
 rw [h1]
 dsimp only
 rw [h2]
 dsimp only
 rw [h3]
 dsimp only
 simp only [List.length_append]
 obtain ⟨tx, tz, ty⟩ := t
 refine Prod.ext rfl (Prod.ext ?_ rfl)
 dsimp only
 omega

theorem spt_bw (xs : List Int) (hb : ∀ x ∈ xs, 0 ≤ x ∧ x ≤ 255) : Bw xs (rdSpt xs) sptN := by
 intro st t j h
 unfold rdSpt at h
 (try dsimp only at h)
 obtain ⟨⟨v1, s1⟩, q1⟩ : ∃ q, q = rdNum xs st := ⟨_, rfl⟩
 rw [← q1] at h
 dsimp only at h
 obtain ⟨⟨v2, s2⟩, q2⟩ : ∃ q, q = rdNum xs s1 := ⟨_, rfl⟩
 rw [← q2] at h
 dsimp only at h
 obtain ⟨⟨v3, s3⟩, q3⟩ : ∃ q, q = rdSig xs s2 := ⟨_, rfl⟩
 rw [← q3] at h
 dsimp only at h
 simp only [Prod.mk.injEq] at h
 obtain ⟨rfl, rfl⟩ := h
 obtain ⟨b1, c3, d3⟩ := sig_bw xs hb _ _ _ q3.symm
 obtain ⟨k2, bb2⟩ := s2
 simp only at b1
 subst b1
 obtain ⟨b1, c2, d2⟩ := (num_bw xs hb _ _ _ q2.symm).1
 obtain ⟨k1, bb1⟩ := s1
 simp only at b1
 subst b1
 obtain ⟨b1, c1, d1⟩ := (num_bw xs hb _ _ _ q1.symm).1
 simp only at c1 d1 c2 d2 c3 d3
 refine ⟨b1, ?_, ?_⟩
 ·
  rw [spt_encs]
  dsimp only
  rw [c1, c2, c3]
  simp only [List.append_assoc]
 ·
  rw [spt_encs]
  dsimp only
  simp only [List.length_append]
  omega

theorem hp_encs (t : Hp) : encs (hpN t) = encs [t.id] ++ (encs (sptN t.a) ++ (encs (sptN t.b) ++ (encs [bothN t.both] ++ (encs [t.area] ++ (encs [t.cost]))))) := by
 unfold hpN sptN
 simp [encs]

theorem hp_fw (xs : List Int) {t : Hp} (h : HpF t) : Fw xs (rdHp xs) (hpN t) t := by
 intro i r hx
 rw [hp_encs] at hx ⊢
 simp only [List.append_assoc] at hx
 unfold HpF at h
 have h1 := num_fw xs (v := t.id) (by omega) (by omega) _ _ (hx)
 have h2 := spt_fw xs h.2.1 _ _ (drop_on (hx))
 have h3 := spt_fw xs h.2.2.1 _ _ (drop_on (drop_on (hx)))
 have h4 := up_fw xs (v := bothN t.both) (m := 1) (by unfold bothN; split <;> omega) (by unfold bothN; split <;> omega) (by unfold bothN; split <;> omega) _ _ (drop_on (drop_on (drop_on (hx))))
 have h5 := num_fw xs (v := t.area) (by omega) (by omega) _ _ (drop_on (drop_on (drop_on (drop_on (hx)))))
 have h6 := num_fw xs (v := t.cost) (by omega) (by omega) _ _ (drop_on (drop_on (drop_on (drop_on (drop_on (hx))))))
 unfold rdHp
 (try dsimp only)
 rw [h1]
 dsimp only
 rw [h2]
 dsimp only
 rw [h3]
 dsimp only
 rw [h4]
 dsimp only
 rw [h5]
 dsimp only
 rw [h6]
 dsimp only
 simp only [List.length_append]
 obtain ⟨t0, t1, t2, t3, t4, t5⟩ := t
 refine Prod.ext (by cases t3 <;> rfl) (Prod.ext ?_ rfl)
 dsimp only
 omega

theorem hp_bw (xs : List Int) (hb : ∀ x ∈ xs, 0 ≤ x ∧ x ≤ 255) : Bw xs (rdHp xs) hpN := by
 intro st t j h
 unfold rdHp at h
 (try dsimp only at h)
 obtain ⟨⟨v1, s1⟩, q1⟩ : ∃ q, q = rdNum xs st := ⟨_, rfl⟩
 rw [← q1] at h
 dsimp only at h
 obtain ⟨⟨v2, s2⟩, q2⟩ : ∃ q, q = rdSpt xs s1 := ⟨_, rfl⟩
 rw [← q2] at h
 dsimp only at h
 obtain ⟨⟨v3, s3⟩, q3⟩ : ∃ q, q = rdSpt xs s2 := ⟨_, rfl⟩
 rw [← q3] at h
 dsimp only at h
 obtain ⟨⟨v4, s4⟩, q4⟩ : ∃ q, q = rdUp xs 1 s3 := ⟨_, rfl⟩
 rw [← q4] at h
 dsimp only at h
 obtain ⟨⟨v5, s5⟩, q5⟩ : ∃ q, q = rdNum xs s4 := ⟨_, rfl⟩
 rw [← q5] at h
 dsimp only at h
 obtain ⟨⟨v6, s6⟩, q6⟩ : ∃ q, q = rdNum xs s5 := ⟨_, rfl⟩
 rw [← q6] at h
 dsimp only at h
 simp only [Prod.mk.injEq] at h
 obtain ⟨rfl, rfl⟩ := h
 obtain ⟨b1, c6, d6⟩ := (num_bw xs hb _ _ _ q6.symm).1
 obtain ⟨k5, bb5⟩ := s5
 simp only at b1
 subst b1
 obtain ⟨b1, c5, d5⟩ := (num_bw xs hb _ _ _ q5.symm).1
 obtain ⟨k4, bb4⟩ := s4
 simp only at b1
 subst b1
 have hup := (up_eq q4.symm).2
 have hup0 := (num_bw xs hb _ _ _ (up_eq q4.symm).1).2
 have hupv4 : bothN (decide (v4 = 1)) = v4 := by unfold bothN; split <;> rename_i hh <;> simp at hh <;> omega
 obtain ⟨b1, c4, d4⟩ := (num_bw xs hb _ _ _ (up_eq q4.symm).1).1
 obtain ⟨k3, bb3⟩ := s3
 simp only at b1
 subst b1
 obtain ⟨b1, c3, d3⟩ := spt_bw xs hb _ _ _ q3.symm
 obtain ⟨k2, bb2⟩ := s2
 simp only at b1
 subst b1
 obtain ⟨b1, c2, d2⟩ := spt_bw xs hb _ _ _ q2.symm
 obtain ⟨k1, bb1⟩ := s1
 simp only at b1
 subst b1
 obtain ⟨b1, c1, d1⟩ := (num_bw xs hb _ _ _ q1.symm).1
 simp only at c1 d1 c2 d2 c3 d3 c4 d4 c5 d5 c6 d6
 refine ⟨b1, ?_, ?_⟩
 ·
  rw [hp_encs]
  dsimp only
  rw [hupv4]
  rw [c1, c2, c3, c4, c5, c6]
  simp only [List.append_assoc]
 ·
  rw [hp_encs]
  dsimp only
  rw [hupv4]
  simp only [List.length_append]
  omega

theorem cfg_encs (t : Cfg) : encs (cfgN t) = encs [t.clear] ++ (encs [t.climb] ++ (encs [t.height] ++ (encs [t.rise] ++ (encs [t.run] ++ (encs [t.w] ++ (encs [t.d])))))) := by
 unfold cfgN
 simp [encs]

theorem cfg_fw (xs : List Int) {t : Cfg} (h : CfgF t) : Fw xs (rdCfg xs) (cfgN t) t := by
 intro i r hx
 rw [cfg_encs] at hx ⊢
 simp only [List.append_assoc] at hx
 unfold CfgF at h
 have h1 := num_fw xs (v := t.clear) (by omega) (by omega) _ _ (hx)
 have h2 := num_fw xs (v := t.climb) (by omega) (by omega) _ _ (drop_on (hx))
 have h3 := num_fw xs (v := t.height) (by omega) (by omega) _ _ (drop_on (drop_on (hx)))
 have h4 := num_fw xs (v := t.rise) (by omega) (by omega) _ _ (drop_on (drop_on (drop_on (hx))))
 have h5 := num_fw xs (v := t.run) (by omega) (by omega) _ _ (drop_on (drop_on (drop_on (drop_on (hx)))))
 have h6 := num_fw xs (v := t.w) (by omega) (by omega) _ _ (drop_on (drop_on (drop_on (drop_on (drop_on (hx))))))
 have h7 := num_fw xs (v := t.d) (by omega) (by omega) _ _ (drop_on (drop_on (drop_on (drop_on (drop_on (drop_on (hx)))))))
 unfold rdCfg
 (try dsimp only)
 rw [h1]
 dsimp only
 rw [h2]
 dsimp only
 rw [h3]
 dsimp only
 rw [h4]
 dsimp only
 rw [h5]
 dsimp only
 rw [h6]
 dsimp only
 rw [h7]
 dsimp only
 simp only [List.length_append]
 obtain ⟨t0, t1, t2, t3, t4, t5, t6⟩ := t
 refine Prod.ext rfl (Prod.ext ?_ rfl)
 dsimp only
 omega

theorem cfg_bw (xs : List Int) (hb : ∀ x ∈ xs, 0 ≤ x ∧ x ≤ 255) : Bw xs (rdCfg xs) cfgN := by
 intro st t j h
 unfold rdCfg at h
 (try dsimp only at h)
 obtain ⟨⟨v1, s1⟩, q1⟩ : ∃ q, q = rdNum xs st := ⟨_, rfl⟩
 rw [← q1] at h
 dsimp only at h
 obtain ⟨⟨v2, s2⟩, q2⟩ : ∃ q, q = rdNum xs s1 := ⟨_, rfl⟩
 rw [← q2] at h
 dsimp only at h
 obtain ⟨⟨v3, s3⟩, q3⟩ : ∃ q, q = rdNum xs s2 := ⟨_, rfl⟩
 rw [← q3] at h
 dsimp only at h
 obtain ⟨⟨v4, s4⟩, q4⟩ : ∃ q, q = rdNum xs s3 := ⟨_, rfl⟩
 rw [← q4] at h
 dsimp only at h
 obtain ⟨⟨v5, s5⟩, q5⟩ : ∃ q, q = rdNum xs s4 := ⟨_, rfl⟩
 rw [← q5] at h
 dsimp only at h
 obtain ⟨⟨v6, s6⟩, q6⟩ : ∃ q, q = rdNum xs s5 := ⟨_, rfl⟩
 rw [← q6] at h
 dsimp only at h
 obtain ⟨⟨v7, s7⟩, q7⟩ : ∃ q, q = rdNum xs s6 := ⟨_, rfl⟩
 rw [← q7] at h
 dsimp only at h
 simp only [Prod.mk.injEq] at h
 obtain ⟨rfl, rfl⟩ := h
 obtain ⟨b1, c7, d7⟩ := (num_bw xs hb _ _ _ q7.symm).1
 obtain ⟨k6, bb6⟩ := s6
 simp only at b1
 subst b1
 obtain ⟨b1, c6, d6⟩ := (num_bw xs hb _ _ _ q6.symm).1
 obtain ⟨k5, bb5⟩ := s5
 simp only at b1
 subst b1
 obtain ⟨b1, c5, d5⟩ := (num_bw xs hb _ _ _ q5.symm).1
 obtain ⟨k4, bb4⟩ := s4
 simp only at b1
 subst b1
 obtain ⟨b1, c4, d4⟩ := (num_bw xs hb _ _ _ q4.symm).1
 obtain ⟨k3, bb3⟩ := s3
 simp only at b1
 subst b1
 obtain ⟨b1, c3, d3⟩ := (num_bw xs hb _ _ _ q3.symm).1
 obtain ⟨k2, bb2⟩ := s2
 simp only at b1
 subst b1
 obtain ⟨b1, c2, d2⟩ := (num_bw xs hb _ _ _ q2.symm).1
 obtain ⟨k1, bb1⟩ := s1
 simp only at b1
 subst b1
 obtain ⟨b1, c1, d1⟩ := (num_bw xs hb _ _ _ q1.symm).1
 simp only at c1 d1 c2 d2 c3 d3 c4 d4 c5 d5 c6 d6 c7 d7
 refine ⟨b1, ?_, ?_⟩
 ·
  rw [cfg_encs]
  dsimp only
  rw [c1, c2, c3, c4, c5, c6, c7]
  simp only [List.append_assoc]
 ·
  rw [cfg_encs]
  dsimp only
  simp only [List.length_append]
  omega

theorem soup_encs (c : Cfg) (s : Sou) : encs (soupN c s) = encs (cfgN c) ++ (encs ([(s.t.length : Int)] ++ s.t.flatMap triN) ++ (encs ([(s.b.length : Int)] ++ s.b.flatMap bxN) ++ encs ([(s.h.length : Int)] ++ s.h.flatMap hpN))) := by
 unfold soupN soupN2 soupN1 soupN0
 simp only [encsK_append, List.append_assoc]
theorem flat_eq {α : Type} {f : α → List Int} {m : Nat} (hf : ∀ x, (f x).length = m) (l : List α) : (l.flatMap f).length = m * l.length := by
 induction l with
 | nil => simp
 | cons x l ih => simp [hf, ih, Nat.mul_add, Nat.add_comm]
theorem vtxN_le {v : Vtx} (h : VtxF v) : ∀ x ∈ vtxN v, x ≤ 4398046511104 := by
 intro x hx
 unfold VtxF at h
 have := zig_small h.2.1
 simp only [vtxN, List.mem_cons, List.not_mem_nil, or_false] at hx
 omega
theorem soup_small {c : Cfg} {s : Sou} (hF : SoupF c s) : (encs (soupN c s)).length ≤ 30000 := by
 have hn : (soupN c s).length ≤ 2298 := by
  unfold soupN soupN2 soupN1 soupN0
  simp only [List.length_append, flat_eq (f := triN) (m := 10) (fun _ => rfl), flat_eq (f := bxN) (m := 8) (fun _ => rfl), flat_eq (f := hpN) (m := 10) (fun _ => rfl)]
  have := hF.nt
  have := hF.nb
  have := hF.nh
  simp only [cfgN, List.length_cons, List.length_nil]
  omega
 have h3 := encs_length_le (soupN c s) (fun x hx => by
  unfold soupN soupN2 soupN1 soupN0 at hx
  simp only [List.mem_append, List.mem_flatMap, List.mem_cons, List.not_mem_nil, or_false] at hx
  have e1 := hF.nt
  have e2 := hF.nb
  have e3 := hF.nh
  rcases hx with (((((hx | hx) | ⟨t, ht, hx⟩) | hx) | ⟨t, ht, hx⟩) | hx) | ⟨t, ht, hx⟩
  ·
   have := hF.c
   unfold CfgF at this
   simp only [cfgN, List.mem_cons, List.not_mem_nil, or_false] at hx
   omega
  ·
   omega
  ·
   have h := hF.t t ht
   unfold TriF at h
   simp only [triN, List.mem_cons, List.mem_append] at hx
   rcases hx with hx | hx | hx | hx
   ·
    omega
   ·
    have := vtxN_le h.2.1 x hx; omega
   ·
    have := vtxN_le h.2.2.1 x hx; omega
   ·
    have := vtxN_le h.2.2.2 x hx; omega
  ·
   omega
  ·
   have h := hF.b t ht
   unfold BxF at h
   have z1 := zig_small h.2.2.2.2.2.1
   have z2 := zig_small h.2.2.2.2.2.2.1
   simp only [bxN, List.mem_cons, List.not_mem_nil, or_false] at hx
   omega
  ·
   omega
  ·
   have h := hF.h t ht
   unfold HpF SptF at h
   have z1 := zig_small h.2.1.2.2
   have z2 := zig_small h.2.2.1.2.2
   have z3 : bothN t.both ≤ 1 := by unfold bothN; split <;> omega
   simp only [hpN, List.mem_cons, List.not_mem_nil, or_false] at hx
   omega)
 omega
theorem soup_fw {c : Cfg} {s : Sou} (hE : soupE c s = 0) (hF : SoupF c s) (more : List Int) (hm : more.length ≤ 1000) : rdSoup (encs (soupN c s) ++ more) = (c, s, ((encs (soupN c s)).length : Int), 0) := by
 have hs := soup_small hF
 obtain ⟨xs, hxs⟩ : ∃ xs, xs = encs (soupN c s) ++ more := ⟨_, rfl⟩
 have hd : xs.drop 0 = encs (soupN c s) ++ more := by rw [hxs]; rfl
 have hxl : ¬ 131072 < xs.length := by rw [hxs, List.length_append]; omega
 have e1 := hF.nt
 have e2 := hF.nb
 have e3 := hF.nh
 rw [← hxs]
 rw [soup_encs] at hd ⊢
 simp only [List.append_assoc] at hd
 have h1 := cfg_fw xs hF.c _ _ hd
 have h2 := list_fw xs (rdTri xs) triN 200 s.t (by omega) (by omega) (fun t ht => tri_fw xs (hF.t t ht)) _ _ (drop_on hd)
 have h3 := list_fw xs (rdBx xs) bxN 16 s.b (by omega) (by omega) (fun t ht => bx_fw xs (hF.b t ht)) _ _ (drop_on (drop_on hd))
 have h4 := list_fw xs (rdHp xs) hpN 16 s.h (by omega) (by omega) (fun t ht => hp_fw xs (hF.h t ht)) _ _ (drop_on (drop_on (drop_on hd)))
 unfold rdSoup
 rw [if_neg hxl]
 dsimp only
 rw [h1]
 dsimp only
 rw [h2]
 dsimp only
 rw [h3]
 dsimp only
 rw [h4]
 dsimp only
 obtain ⟨st, sb, sh⟩ := s
 rw [if_neg (by rw [hE]; simp)]
 simp only [List.length_append, Prod.mk.injEq, true_and, and_true]
 omega
theorem soup_bw {xs : List Int} (hb : ∀ x ∈ xs, 0 ≤ x ∧ x ≤ 255) {c : Cfg} {s : Sou} {u : Int} (h : rdSoup xs = (c, s, u, 0)) : soupE c s = 0 ∧ ∃ n : Nat, u = (n : Int) ∧ n ≤ xs.length ∧ encs (soupN c s) = xs.take n := by
 unfold rdSoup at h
 by_cases hl : 131072 < xs.length
 ·
  rw [if_pos hl] at h; simp at h
 rw [if_neg hl] at h
 dsimp only at h
 obtain ⟨⟨c1, s1⟩, q1⟩ : ∃ q, q = rdCfg xs (0, false) := ⟨_, rfl⟩
 rw [← q1] at h
 dsimp only at h
 obtain ⟨⟨l2, s2⟩, q2⟩ : ∃ q, q = rdList xs 200 (rdTri xs) s1 := ⟨_, rfl⟩
 rw [← q2] at h
 dsimp only at h
 obtain ⟨⟨l3, s3⟩, q3⟩ : ∃ q, q = rdList xs 16 (rdBx xs) s2 := ⟨_, rfl⟩
 rw [← q3] at h
 dsimp only at h
 obtain ⟨⟨l4, s4⟩, q4⟩ : ∃ q, q = rdList xs 16 (rdHp xs) s3 := ⟨_, rfl⟩
 rw [← q4] at h
 dsimp only at h
 by_cases hbad : s4.2 = true ∨ soupE c1 ⟨l2, l3, l4⟩ ≠ 0
 ·
  rw [if_pos hbad] at h; simp at h
 rw [if_neg hbad] at h
 simp only [Prod.mk.injEq, and_true] at h
 obtain ⟨rfl, rfl, rfl⟩ := h
 obtain ⟨k4, b4⟩ := s4
 cases b4 with
 | true => exact absurd (.inl rfl) hbad
 | false =>
 obtain ⟨b1, f4, d4⟩ := list_bw xs hb (rdHp xs) hpN 16 (hp_bw xs hb) _ _ _ q4.symm
 obtain ⟨k3, b3⟩ := s3
 simp only at b1
 subst b1
 obtain ⟨b1, f3, d3⟩ := list_bw xs hb (rdBx xs) bxN 16 (bx_bw xs hb) _ _ _ q3.symm
 obtain ⟨k2, b2⟩ := s2
 simp only at b1
 subst b1
 obtain ⟨b1, f2, d2⟩ := list_bw xs hb (rdTri xs) triN 200 (tri_bw xs hb) _ _ _ q2.symm
 obtain ⟨k1, b0⟩ := s1
 simp only at b1
 subst b1
 obtain ⟨_, f1, d1⟩ := cfg_bw xs hb _ _ _ q1.symm
 simp only at f1 f2 f3 f4 d1 d2 d3 d4
 have e : xs = encs (soupN c1 ⟨l2, l3, l4⟩) ++ xs.drop k4 := by
  rw [soup_encs]
  simp only [List.append_assoc]
  rw [← f4, ← f3, ← f2, ← f1]
  rfl
 have e2 : k4 = (encs (soupN c1 ⟨l2, l3, l4⟩)).length := by
  rw [soup_encs]
  simp only [List.length_append]
  omega
 refine ⟨Classical.byContradiction fun h => hbad (.inr h), k4, rfl, ?_, ?_⟩
 ·
  have := congrArg List.length e
  rw [List.length_append] at this
  omega
 ·
  rw [e, e2, List.take_left]
end Go.Proofs.YtgfmdgiepomkiaaGreat
