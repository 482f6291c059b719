/- Plain law: triangles over a column as spans: their order does not matter; those that are over it alone. -/
import Derived.Test.YtjiklfffcnfdjaaGreatGb
import Derived.Test.YtjiklfffcnfdjaaGreatGd
import Derived.Test.YtjiklfffcnfdjaaGreatGp
import Derived.Test.YtjiklfffcnfdjaaGreatCfg
namespace Go.Proofs.YtjiklfffcnfdjaaGreat

/-- A triangle. -/
structure Tr where
  id : Int
  a : V3
  b : V3
  c : V3
deriving DecidableEq
/-- Heights over a column do not hang on the triangle's number. -/
def overT (t : Tr) (x z : Int) : Int × Int × Bool × Int := overE t.a t.b t.c x z
def nxV (t : Tr) : Int := (t.b.y - t.a.y) * (t.c.z - t.a.z) - (t.b.z - t.a.z) * (t.c.y - t.a.y)
def nyV (t : Tr) : Int := (t.b.z - t.a.z) * (t.c.x - t.a.x) - (t.b.x - t.a.x) * (t.c.z - t.a.z)
def nzV (t : Tr) : Int := (t.b.x - t.a.x) * (t.c.y - t.a.y) - (t.b.y - t.a.y) * (t.c.x - t.a.x)
def walkV (rise run : Int) (t : Tr) : Bool := decide ((nxV t * nxV t + nzV t * nzV t) * run * run ≤ nyV t * nyV t * rise * rise)
def pieceT (rise run x z : Int) (t : Tr) : Option Spn := if (overT t x z).2.2.1 then some ⟨(overT t x z).1, (overT t x z).2.1, walkV rise run t⟩ else none
def piecesT (rise run x z : Int) (l : List Tr) : List Spn := l.filterMap (pieceT rise run x z)
/-- What a column is, of triangles that may be. -/
def colT (rise run x z : Int) (l : List Tr) : List Spn × Int :=
  if mrgE (piecesT rise run x z l) = 0 ∧ 8 < (mrgR (piecesT rise run x z l)).length then ([], 51) else (mrgR (piecesT rise run x z l), mrgE (piecesT rise run x z l))

theorem mayAll_set {l m : List Spn} (h : ∀ p, p ∈ m ↔ p ∈ l) : mayAll m = mayAll l := by
  rw [Bool.eq_iff_iff, mayAll_iff, mayAll_iff]
  exact ⟨fun q p hp => q p ((h p).2 hp), fun q p hp => q p ((h p).1 hp)⟩
theorem mrgR_set {l m : List Spn} (h : ∀ p, p ∈ m ↔ p ∈ l) : mrgR m = mrgR l := by
  cases hl : mayAll l with
  | true =>
    have hm := (mayAll_set h).trans hl
    rw [mrgR_of hl, mrgR_of hm]
    exact Mrg.uniq (mayAll_ups hm) (mrgL_mrg (mayAll_ups hm)) (mrgL_mrg (mayAll_ups hl)) h
  | false => rw [mrgR_not hl, mrgR_not ((mayAll_set h).trans hl)]
theorem mrgE_set {l m : List Spn} (h : ∀ p, p ∈ m ↔ p ∈ l) : mrgE m = mrgE l := by
  unfold mrgE
  rw [mayAll_set h]
theorem pieces_set {rise run x z : Int} {l m : List Tr} (h : ∀ t, t ∈ m ↔ t ∈ l) (p : Spn) : p ∈ piecesT rise run x z m ↔ p ∈ piecesT rise run x z l := by
  unfold piecesT
  rw [List.mem_filterMap, List.mem_filterMap]
  constructor
  · rintro ⟨t, ht, e⟩; exact ⟨t, (h t).1 ht, e⟩
  · rintro ⟨t, ht, e⟩; exact ⟨t, (h t).2 ht, e⟩
/-- The order of triangles does not matter, nor one that is there twice. -/
theorem col_set {rise run x z : Int} {l m : List Tr} (h : ∀ t, t ∈ m ↔ t ∈ l) : colT rise run x z m = colT rise run x z l := by
  unfold colT
  rw [mrgR_set (pieces_set h), mrgE_set (pieces_set h)]
theorem turned_mem {l : List Tr} (k : Nat) {t u : Tr} (hu : u ∈ l) : t ∈ (l.drop k ++ l.take k) ++ [u] ↔ t ∈ l := by
  have e := List.take_append_drop k l
  rw [List.mem_append, List.mem_append, List.mem_singleton]
  constructor
  · rintro ((h | h) | rfl)
    · exact List.mem_of_mem_drop h
    · exact List.mem_of_mem_take h
    · exact hu
  · intro h
    rw [← e, List.mem_append] at h
    rcases h with h | h
    · exact .inl (.inr h)
    · exact .inl (.inl h)
/-- Those that are over the column alone. -/
theorem pieces_own {rise run x z : Int} (l : List Tr) : piecesT rise run x z (l.filter fun t => (overT t x z).2.2.1) = piecesT rise run x z l := by
  unfold piecesT
  induction l with
  | nil => rfl
  | cons t l ih =>
    rw [List.filter_cons]
    by_cases h : (overT t x z).2.2.1 = true
    · rw [if_pos h, List.filterMap_cons, List.filterMap_cons, ih]
    · rw [if_neg h, ih, List.filterMap_cons]
      have e : pieceT rise run x z t = none := by unfold pieceT; rw [if_neg h]
      rw [e]
theorem col_own {rise run x z : Int} (l : List Tr) : colT rise run x z (l.filter fun t => (overT t x z).2.2.1) = colT rise run x z l := by
  unfold colT
  rw [pieces_own]
/-- The pieces may be. -/
theorem pieces_may {rise run x z : Int} {l : List Tr} (hv : ∀ t ∈ l, vOk t.a = true ∧ vOk t.b = true ∧ vOk t.c = true) : mayAll (piecesT rise run x z l) = true := by
  rw [mayAll_iff]
  intro p hp
  obtain ⟨t, ht, e⟩ := List.mem_filterMap.1 hp
  unfold pieceT at e
  split at e
  · rename_i hk
    cases e
    have h0 : (overT t x z).2.2.2 = 0 := by
      refine Classical.byContradiction fun h => ?_
      have := overE_bad (a := t.a) (b := t.b) (c := t.c) (x := x) (z := z) h
      unfold overT at hk
      rw [this] at hk
      cases hk
    have hr : overE t.a t.b t.c x z = ((overT t x z).1, (overT t x z).2.1, true, 0) := Prod.ext rfl (Prod.ext rfl (Prod.ext hk h0))
    obtain ⟨_, h1, h2, h3, _⟩ := between_facts hr
    have hy : ∀ v : V3, vOk v = true → -2048 ≤ v.y ∧ v.y ≤ 2048 := by
      intro v h
      unfold vOk at h
      simp only [Bool.and_eq_true, decide_eq_true_eq] at h
      omega
    obtain ⟨va, vb, vc⟩ := hv t ht
    have := hy _ va
    have := hy _ vb
    have := hy _ vc
    simp only
    omega
  · cases e
end Go.Proofs.YtjiklfffcnfdjaaGreat

namespace Go.Proofs.YtjiklfffcnfdjaaGreat

def Tr.t3 (t : Tr) : Tri3 := ⟨t.id, ⟨t.a.x, t.a.y, t.a.z⟩, ⟨t.b.x, t.b.y, t.b.z⟩, ⟨t.c.x, t.c.y, t.c.z⟩⟩
/-- May it be, in a world so wide? -/
def trMay (W D : Int) (t : Tr) : Bool := triOk W D t.t3
/-- Corners within so many columns, and of such heights. -/
def crnOk (W D : Int) (t : Tr) : Bool := vtxOk W D t.t3.v0 && vtxOk W D t.t3.v1 && vtxOk W D t.t3.v2
def inCol (cf : Cfg) (x z : Int) : Bool := decide (0 ≤ x) && decide (x < cf.w) && decide (0 ≤ z) && decide (z < cf.d)
def colMay (cf : Cfg) (l : List Tr) : Int := if cfgOk cf = false then 20 else if 200 < l.length then 2 else if l.all (trMay cf.w cf.d) then 0 else 2
def colIn (cf : Cfg) (l : List Tr) (x z : Int) : List Spn × Int := if inCol cf x z then colT cf.rise cf.run x z l else ([], 0)
/-- What raster.Column tells. -/
def colAll (cf : Cfg) (l : List Tr) (x z : Int) : List Spn × Int := if colMay cf l ≠ 0 then ([], colMay cf l) else colIn cf l x z

theorem crn_iff {W D : Int} {t : Tr} : crnOk W D t = true ↔ ((0 ≤ t.a.x ∧ t.a.x ≤ W ∧ 0 ≤ t.a.z ∧ t.a.z ≤ D ∧ -2048 ≤ t.a.y ∧ t.a.y ≤ 2048) ∧ (0 ≤ t.b.x ∧ t.b.x ≤ W ∧ 0 ≤ t.b.z ∧ t.b.z ≤ D ∧ -2048 ≤ t.b.y ∧ t.b.y ≤ 2048) ∧ (0 ≤ t.c.x ∧ t.c.x ≤ W ∧ 0 ≤ t.c.z ∧ t.c.z ≤ D ∧ -2048 ≤ t.c.y ∧ t.c.y ≤ 2048)) := by
  unfold crnOk vtxOk hgtOk Tr.t3
  simp only [Bool.and_eq_true, decide_eq_true_eq, and_assoc]
theorem flat_ny (t : Tr) : flatT t.t3 = -nyV t := by
  unfold flatT nyV Tr.t3
  simp only
  rw [Int.mul_comm (t.b.x - t.a.x), Int.mul_comm (t.b.z - t.a.z)]
  omega
theorem trMay_crn {W D : Int} {t : Tr} : trMay W D t = (crnOk W D t && decide (nyV t ≠ 0)) := by
  unfold trMay triOk crnOk
  congr 1
  rw [flat_ny]
  by_cases h : nyV t = 0 <;> simp [h]
theorem crn_mono {W D W' D' : Int} {t : Tr} (hW : W ≤ W') (hD : D ≤ D') (h : crnOk W D t = true) : crnOk W' D' t = true := by
  rw [crn_iff] at h ⊢
  omega
theorem crn_vok {t : Tr} (h : crnOk 32 32 t = true) : vOk t.a = true ∧ vOk t.b = true ∧ vOk t.c = true := by
  rw [crn_iff] at h
  unfold vOk
  simp only [Bool.and_eq_true, decide_eq_true_eq]
  omega
theorem cfg_wd {cf : Cfg} (h : cfgOk cf = true) : cf.w ≤ 32 ∧ cf.d ≤ 32 := by
  unfold cfgOk at h
  simp only [decide_eq_true_eq] at h
  omega
theorem colMay_set {cf : Cfg} {l m : List Tr} (h : ∀ t, t ∈ m ↔ t ∈ l) (hl : l.length ≤ 200) (hm : m.length ≤ 200) : colMay cf m = colMay cf l := by
  have e : m.all (trMay cf.w cf.d) = l.all (trMay cf.w cf.d) := by
    rw [Bool.eq_iff_iff, List.all_eq_true, List.all_eq_true]
    exact ⟨fun q t ht => q t ((h t).2 ht), fun q t ht => q t ((h t).1 ht)⟩
  unfold colMay
  rw [if_neg (show ¬ 200 < m.length by omega), if_neg (show ¬ 200 < l.length by omega), e]
theorem colAll_set {cf : Cfg} {l m : List Tr} {x z : Int} (h : ∀ t, t ∈ m ↔ t ∈ l) (hl : l.length ≤ 200) (hm : m.length ≤ 200) : colAll cf m x z = colAll cf l x z := by
  unfold colAll colIn
  rw [colMay_set h hl hm, col_set h]
/-- Where it answers. -/
theorem colMay_zero {cf : Cfg} {l : List Tr} : colMay cf l = 0 ↔ cfgOk cf = true ∧ l.length ≤ 200 ∧ ∀ t ∈ l, trMay cf.w cf.d t = true := by
  unfold colMay
  cases hc : cfgOk cf with
  | false => simp
  | true =>
    by_cases hl : 200 < l.length
    · rw [if_neg (by simp), if_pos hl]
      simp
      omega
    · rw [if_neg (by simp), if_neg hl]
      cases ha : l.all (trMay cf.w cf.d) with
      | true =>
        rw [List.all_eq_true] at ha
        simp only [if_true, true_and, true_iff]
        exact ⟨by omega, ha⟩
      | false =>
        simp only [if_neg (show ¬ (false = true) by simp), true_and]
        constructor
        · intro h; omega
        · rintro ⟨_, h⟩
          rw [← List.all_eq_true, ha] at h
          cases h
theorem colMay_e (cf : Cfg) (l : List Tr) : colMay cf l = 0 ∨ colMay cf l = 2 ∨ colMay cf l = 20 := by
  unfold colMay
  split
  · exact .inr (.inr rfl)
  split
  · exact .inr (.inl rfl)
  split
  · exact .inl rfl
  · exact .inr (.inl rfl)
theorem may_pieces {cf : Cfg} {l : List Tr} {x z : Int} (hc : cfgOk cf = true) (h : ∀ t ∈ l, trMay cf.w cf.d t = true) : mayAll (piecesT cf.rise cf.run x z l) = true :=
  pieces_may fun t ht => by
    have h1 := h t ht
    rw [trMay_crn, Bool.and_eq_true] at h1
    exact crn_vok (crn_mono (cfg_wd hc).1 (cfg_wd hc).2 h1.1)
/-- Over the column. -/
def isOver (x z : Int) (t : Tr) : Bool := (overT t x z).2.2.1
def holdsY (x z y : Int) (t : Tr) : Bool := isOver x z t && (decide ((overT t x z).1 ≤ y) && decide (y ≤ (overT t x z).2.1))
theorem colAll_own {cf : Cfg} {l : List Tr} {x z : Int} (h : (colAll cf l x z).2 = 0) (hin : inCol cf x z = true) : colAll cf (l.filter (isOver x z)) x z = colAll cf l x z ∧ (∀ t ∈ l, trMay cf.w cf.d t = true) ∧ cfgOk cf = true ∧ (colAll cf l x z).1 = mrgL (piecesT cf.rise cf.run x z l) ∧ mayAll (piecesT cf.rise cf.run x z l) = true := by
  have h0 : colMay cf l = 0 := by
    refine Classical.byContradiction fun h0 => ?_
    unfold colAll at h
    rw [if_pos h0] at h
    exact h0 h
  obtain ⟨hc, hl, ht⟩ := colMay_zero.1 h0
  have h1 : colMay cf (l.filter (isOver x z)) = 0 := colMay_zero.2 ⟨hc, Nat.le_trans (List.length_filter_le _ _) hl, fun t h => ht t (List.mem_filter.1 h).1⟩
  have hm := may_pieces (x := x) (z := z) hc ht
  have e1 : colAll cf l x z = colT cf.rise cf.run x z l := by
    unfold colAll colIn
    rw [if_neg (by simpa using h0), if_pos hin]
  refine ⟨?_, ht, hc, ?_, hm⟩
  · rw [e1]
    unfold colAll colIn
    rw [if_neg (by simpa using h1), if_pos hin]
    exact col_own l
  · rw [e1] at h ⊢
    unfold colT at h ⊢
    split at h
    · cases h
    · rename_i hh
      rw [if_neg hh]
      exact mrgR_of hm
theorem any_pieces (rise run x z y : Int) (l : List Tr) : l.any (holdsY x z y) = (piecesT rise run x z l).any (inAt y) := by
  unfold piecesT
  induction l with
  | nil => rfl
  | cons t l ih =>
    rw [List.any_cons, List.filterMap_cons, ih]
    by_cases h : (overT t x z).2.2.1 = true
    · have e : pieceT rise run x z t = some ⟨(overT t x z).1, (overT t x z).2.1, walkV rise run t⟩ := by unfold pieceT; rw [if_pos h]
      rw [e]
      simp only [List.any_cons]
      congr 1
      unfold holdsY isOver inAt
      rw [h]
      rfl
    · have e : pieceT rise run x z t = none := by unfold pieceT; rw [if_neg h]
      rw [e]
      simp only
      have : holdsY x z y t = false := by unfold holdsY isOver; simp [h]
      rw [this]
      rfl
theorem held_solid {cf : Cfg} {l : List Tr} {x z y : Int} (h : (colAll cf l x z).2 = 0) (hin : inCol cf x z = true) : l.any (holdsY x z y) = (colAll cf l x z).1.any (inAt y) := by
  obtain ⟨_, _, _, e, hm⟩ := colAll_own h hin
  rw [e, any_pieces cf.rise cf.run]
  have hM := mrgL_mrg (mayAll_ups hm)
  have hi := hM.in_iff (mayAll_ups hm) y
  rw [Bool.eq_iff_iff]
  simp only [List.any_eq_true, inAt, Bool.and_eq_true, decide_eq_true_eq]
  exact hi
theorem own_succ {l : List Tr} {k : Nat} {t : Tr} (x z : Int) (ht : l[k]? = some t) : (l.take (k + 1)).filter (isOver x z) = (l.take k).filter (isOver x z) ++ if isOver x z t then [t] else [] := by
  rw [List.take_add_one, ht, List.filter_append]
  congr 1
  cases h : isOver x z t <;> simp [h]
theorem holds_succ {l : List Tr} {k : Nat} {t : Tr} (x z y : Int) (ht : l[k]? = some t) : (l.take (k + 1)).any (holdsY x z y) = ((l.take k).any (holdsY x z y) || holdsY x z y t) := by
  rw [List.take_add_one, ht, List.any_append]
  simp
theorem pieces_succ {l : List Tr} {k : Nat} {t : Tr} (rise run x z : Int) (ht : l[k]? = some t) : piecesT rise run x z (l.take (k + 1)) = piecesT rise run x z (l.take k) ++ (pieceT rise run x z t).toList := by
  unfold piecesT
  rw [List.take_add_one, ht, List.filterMap_append]
  congr 1
end Go.Proofs.YtjiklfffcnfdjaaGreat
