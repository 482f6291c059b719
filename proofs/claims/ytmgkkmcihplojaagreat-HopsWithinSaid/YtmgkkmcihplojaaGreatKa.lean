/- Plain: rectangles: which may be; links of floors. -/
import Derived.Test.YtmgkkmcihplojaaGreatGp
import Derived.Test.YtmgkkmcihplojaaGreatCfg
namespace Go.Proofs.YtmgkkmcihplojaaGreat

/-- A rectangle. -/
structure Rc where
  x0 : Int
  z0 : Int
  x1 : Int
  z1 : Int
  area : Int
  ys : List Int
  ts : List Int
deriving DecidableEq
def nearB (n : Int) : Bool := decide (-1099511627776 ≤ n) && decide (n ≤ 1099511627776)
/-- Are two floors linked, by a config that may be? -/
def lnkOk (cf : Cfg) (a b : Flr) : Bool := (nearB a.y && nearB a.top && nearB b.y && nearB b.top) && (decide (0 < a.area) && decide (0 < b.area) && decide (max (a.y - b.y) (b.y - a.y) ≤ cf.climb) && decide (cf.height ≤ min a.top b.top - max a.y b.y))
def lnk (cf : Cfg) (a b : Flr) : Bool := cfgOk cf && lnkOk cf a b
def rcW (r : Rc) : Int := r.x1 - r.x0 + 1
/-- Does it hold the column, within the world? -/
def rcIn (r : Rc) (x z : Int) : Bool := decide (0 ≤ r.x0) && decide (r.x1 < 32) && decide (0 ≤ r.z0) && decide (r.z1 < 32) && decide (r.x0 ≤ x) && decide (x ≤ r.x1) && decide (r.z0 ≤ z) && decide (z ≤ r.z1)
def rcK (r : Rc) (x z : Int) : Int := (z - r.z0) * (r.x1 - r.x0 + 1) + x - r.x0
/-- The floor of a column. -/
def rcAt (r : Rc) (x z : Int) : Option Flr :=
  if rcIn r x z then
    match r.ys[(rcK r x z).toNat]?, r.ts[(rcK r x z).toNat]? with
    | some y, some t => some ⟨y, t, r.area⟩
    | _, _ => none
  else none
def rcF (r : Rc) (x z : Int) : Flr := (rcAt r x z).getD ⟨0, 0, 0⟩
theorem rcIn_iff {r : Rc} {x z : Int} : rcIn r x z = true ↔ 0 ≤ r.x0 ∧ r.x1 < 32 ∧ 0 ≤ r.z0 ∧ r.z1 < 32 ∧ r.x0 ≤ x ∧ x ≤ r.x1 ∧ r.z0 ≤ z ∧ z ≤ r.z1 := by
  unfold rcIn
  simp only [Bool.and_eq_true, decide_eq_true_eq, and_assoc]
theorem rcK_bd {r : Rc} {x z : Int} (h : rcIn r x z = true) : 0 ≤ rcK r x z ∧ rcK r x z < 1024 := by
  obtain ⟨h1, h2, h3, h4, h5, h6, h7, h8⟩ := rcIn_iff.1 h
  unfold rcK
  have a : 0 ≤ (z - r.z0) * (r.x1 - r.x0 + 1) := Int.mul_nonneg (by omega) (by omega)
  have b : (z - r.z0) * (r.x1 - r.x0 + 1) ≤ 31 * (r.x1 - r.x0 + 1) := Int.mul_le_mul_of_nonneg_right (by omega) (by omega)
  omega
/-- Bounds that may be. -/
def rcBd (r : Rc) : Bool := decide (0 ≤ r.x0) && decide (r.x0 ≤ r.x1) && decide (r.x1 < 32) && decide (0 ≤ r.z0) && decide (r.z0 ≤ r.z1) && decide (r.z1 < 32) && decide (1 ≤ r.area) && decide (r.area ≤ 7)
def rcN (r : Rc) : Nat := ((r.x1 - r.x0 + 1) * (r.z1 - r.z0 + 1)).toNat
def hgtB (f : Flr) : Bool := decide (-2048 ≤ f.y) && decide (f.y ≤ 2048) && decide (f.y < f.top) && decide (f.top ≤ 1048576)
def toB (cf : Cfg) (f : Flr) (o : Option Flr) : Bool := match o with
  | some g => lnk cf f g
  | none => true
/-- A column's floor may be, and is linked with those behind it. -/
def rcCol (cf : Cfg) (r : Rc) (x z : Int) : Bool := hgtB (rcF r x z) && toB cf (rcF r x z) (rcAt r (x + 1) z) && toB cf (rcF r x z) (rcAt r x (z + 1))
def rcCell (cf : Cfg) (r : Rc) (k : Nat) : Bool := rcCol cf r (r.x0 + ((k % (rcW r).toNat : Nat) : Int)) (r.z0 + ((k / (rcW r).toNat : Nat) : Int))
def rcLens (r : Rc) : Bool := decide (r.ys.length = rcN r) && decide (r.ts.length = rcN r)
/-- What rects.Check tells. -/
def rcOk (cf : Cfg) (r : Rc) : Bool := rcBd r && rcLens r && (List.range (rcN r)).all (rcCell cf r)
def rcE (cf : Cfg) (r : Rc) : Int := if cfgOk cf then if rcOk cf r then 0 else 2 else 20
theorem rcBd_iff {r : Rc} : rcBd r = true ↔ 0 ≤ r.x0 ∧ r.x0 ≤ r.x1 ∧ r.x1 < 32 ∧ 0 ≤ r.z0 ∧ r.z0 ≤ r.z1 ∧ r.z1 < 32 ∧ 1 ≤ r.area ∧ r.area ≤ 7 := by
  unfold rcBd
  simp only [Bool.and_eq_true, decide_eq_true_eq, and_assoc]
theorem rcE_zero {cf : Cfg} {r : Rc} : rcE cf r = 0 ↔ cfgOk cf = true ∧ rcOk cf r = true := by
  unfold rcE
  cases cfgOk cf <;> cases rcOk cf r <;> simp
theorem rcE_bd {cf : Cfg} {r : Rc} (hc : cfgOk cf = true) (h : rcBd r = false) : rcE cf r = 2 := by
  unfold rcE rcOk
  rw [hc, h]
  rfl
theorem rcE_len {cf : Cfg} {r : Rc} (hc : cfgOk cf = true) (h : rcLens r = false) : rcE cf r = 2 := by
  unfold rcE rcOk
  rw [hc, h, Bool.and_false]
  rfl
theorem rcE_bad {cf : Cfg} {r : Rc} {k : Nat} (hc : cfgOk cf = true) (hk : k < rcN r) (h : rcCell cf r k = false) : rcE cf r = 2 := by
  have e : (List.range (rcN r)).all (rcCell cf r) = false := by
    cases h2 : (List.range (rcN r)).all (rcCell cf r) with
    | false => rfl
    | true =>
      rw [List.all_eq_true] at h2
      have := h2 k (List.mem_range.2 hk)
      rw [h] at this
      cases this
  unfold rcE rcOk
  rw [hc, e, Bool.and_false]
  rfl
theorem rcE_good {cf : Cfg} {r : Rc} (hc : cfgOk cf = true) (hb : rcBd r = true) (hl : rcLens r = true) (h : ∀ k, k < rcN r → rcCell cf r k = true) : rcE cf r = 0 := by
  rw [rcE_zero]
  refine ⟨hc, ?_⟩
  unfold rcOk
  rw [hb, hl, Bool.true_and, Bool.true_and, List.all_eq_true]
  intro k hk
  exact h k (List.mem_range.1 hk)
theorem rcN_bd {r : Rc} (h : rcBd r = true) : 1 ≤ rcN r ∧ rcN r ≤ 1024 ∧ ((rcN r : Nat) : Int) = (r.x1 - r.x0 + 1) * (r.z1 - r.z0 + 1) := by
  obtain ⟨h1, h2, h3, h4, h5, h6, _, _⟩ := rcBd_iff.1 h
  unfold rcN
  have a : 1 * 1 ≤ (r.x1 - r.x0 + 1) * (r.z1 - r.z0 + 1) := Int.mul_le_mul (by omega) (by omega) (by omega) (by omega)
  have b : (r.x1 - r.x0 + 1) * (r.z1 - r.z0 + 1) ≤ 32 * 32 := Int.mul_le_mul (by omega) (by omega) (by omega) (by omega)
  omega
end Go.Proofs.YtmgkkmcihplojaaGreat

namespace Go.Proofs.YtmgkkmcihplojaaGreat

/-- A door. -/
structure Dr where
  a : Int
  b : Int
  x0 : Int
  z0 : Int
  x1 : Int
  z1 : Int
deriving DecidableEq
/-- The pair of columns n across a's border to b, at its greater side: upright, or not. -/
def prAcross (a b : Rc) (up : Bool) : Bool := if up then decide (a.x1 + 1 = b.x0) else decide (a.z1 + 1 = b.z0)
def prFrom (a b : Rc) (up : Bool) : Int := if up then max a.z0 b.z0 else max a.x0 b.x0
def prTo (a b : Rc) (up : Bool) : Int := if up then min a.z1 b.z1 else min a.x1 b.x1
def prF (a : Rc) (up : Bool) (n : Int) : Flr := if up then rcF a a.x1 n else rcF a n a.z1
def prG (b : Rc) (up : Bool) (n : Int) : Flr := if up then rcF b b.x0 n else rcF b n b.z0
def prD (b : Rc) (up : Bool) (n : Int) : Dr := if up then ⟨0, 1, b.x0, n, b.x0, n + 1⟩ else ⟨0, 1, n, b.z0, n + 1, b.z0⟩
def prOne (cf : Cfg) (a b : Rc) (up : Bool) (n : Int) : List Dr := if lnk cf (prF a up n) (prG b up n) then [prD b up n] else []
def prLen (a b : Rc) (up : Bool) : Nat := if prAcross a b up then (prTo a b up + 1 - prFrom a b up).toNat else 0
/-- The open pairs, up to k columns. -/
def prsTo (cf : Cfg) (a b : Rc) (up : Bool) (k : Nat) : List Dr := (List.range k).flatMap fun (i : Nat) => prOne cf a b up (prFrom a b up + (i : Int))
def prs (cf : Cfg) (a b : Rc) (up : Bool) : List Dr := prsTo cf a b up (prLen a b up)
/-- A pair goes on with the last door, or begins one. -/
def addD (l : List Dr) (d : Dr) : List Dr := match l.getLast? with
  | some e => if e.x1 = d.x0 ∧ e.z1 = d.z0 then l.dropLast ++ [⟨e.a, e.b, e.x0, e.z0, d.x1, d.z1⟩] else l ++ [d]
  | none => l ++ [d]
def joinD (l : List Dr) : List Dr := l.foldl addD []
def betwL (cf : Cfg) (a b : Rc) : List Dr := prs cf a b true ++ (prs cf b a true ++ (prs cf a b false ++ prs cf b a false))
/-- What doors.Between tells. -/
def betw (cf : Cfg) (a b : Rc) : List Dr := if rcE cf a = 0 ∧ rcE cf b = 0 then joinD (betwL cf a b) else []
theorem prsTo_succ (cf : Cfg) (a b : Rc) (up : Bool) (k : Nat) : prsTo cf a b up (k + 1) = prsTo cf a b up k ++ prOne cf a b up (prFrom a b up + (k : Int)) := by
  unfold prsTo
  rw [List.range_succ, List.flatMap_append, List.flatMap_cons, List.flatMap_nil, List.append_nil]

theorem prs_nil {cf : Cfg} {a b : Rc} {up : Bool} (h : prLen a b up = 0) : prs cf a b up = [] := by unfold prs; rw [h]; rfl
/-- One of the four at most tells of any. -/
theorem prLen_one {a b : Rc} (ha : rcBd a = true) (hb : rcBd b = true) :
    (prLen a b true ≠ 0 → prLen b a true = 0 ∧ prLen a b false = 0 ∧ prLen b a false = 0) ∧ (prLen b a true ≠ 0 → prLen a b false = 0 ∧ prLen b a false = 0) ∧ (prLen a b false ≠ 0 → prLen b a false = 0) := by
  obtain ⟨h1, h2, h3, h4, h5, h6, _, _⟩ := rcBd_iff.1 ha
  obtain ⟨k1, k2, k3, k4, k5, k6, _, _⟩ := rcBd_iff.1 hb
  unfold prLen prAcross prFrom prTo
  simp only [Bool.false_eq_true, if_false, if_true, decide_eq_true_eq]
  refine ⟨fun h => ?_, fun h => ?_, fun h => ?_⟩
  · have e : a.x1 + 1 = b.x0 := by
      refine Classical.byContradiction fun e => h ?_
      rw [if_neg e]
    refine ⟨?_, ?_, ?_⟩
    · rw [if_neg (by omega)]
    · split
      · omega
      · rfl
    · split
      · omega
      · rfl
  · have e : b.x1 + 1 = a.x0 := by
      refine Classical.byContradiction fun e => h ?_
      rw [if_neg e]
    refine ⟨?_, ?_⟩
    · split
      · omega
      · rfl
    · split
      · omega
      · rfl
  · have e : a.z1 + 1 = b.z0 := by
      refine Classical.byContradiction fun e => h ?_
      rw [if_neg e]
    rw [if_neg (by omega)]
theorem rcOk_bd {cf : Cfg} {r : Rc} (h : rcE cf r = 0) : rcBd r = true := by
  obtain ⟨_, h2⟩ := rcE_zero.1 h
  unfold rcOk at h2
  simp only [Bool.and_eq_true] at h2
  exact h2.1.1
/-! ### Moved -/
theorem betw_no {cf : Cfg} {a b : Rc} (h : ¬ (rcE cf a = 0 ∧ rcE cf b = 0)) : betw cf a b = [] := by unfold betw; rw [if_neg h]
end Go.Proofs.YtmgkkmcihplojaaGreat

namespace Go.Proofs.YtmgkkmcihplojaaGreat

end Go.Proofs.YtmgkkmcihplojaaGreat

namespace Go.Proofs.YtmgkkmcihplojaaGreat

/-- Which door comes ahead. -/
def ltD (d e : Dr) : Prop := d.a < e.a ∨ d.a = e.a ∧ (d.b < e.b ∨ d.b = e.b ∧ (d.x0 < e.x0 ∨ d.x0 = e.x0 ∧ d.z0 < e.z0))
instance (d e : Dr) : Decidable (ltD d e) := by unfold ltD; infer_instance
theorem ltD_trans {d e f : Dr} (h1 : ltD d e) (h2 : ltD e f) : ltD d f := by unfold ltD at *; omega
theorem ltD_irrefl (d : Dr) : ¬ ltD d d := by unfold ltD; omega
theorem ltD_asymm {d e : Dr} (h : ltD d e) : ¬ ltD e d := by unfold ltD at *; omega
theorem ltD_ntrans {d e f : Dr} (h1 : ¬ ltD d e) (h2 : ¬ ltD e f) : ¬ ltD d f := by unfold ltD at *; omega
def cmpD (d e : Dr) : Int := if ltD d e then -1 else if ltD e d then 1 else 0
theorem cmpD_neg {d e : Dr} : cmpD d e < 0 ↔ ltD d e := by
  unfold cmpD
  split
  · rename_i h; simp [h]
  · rename_i h
    split <;> simp [h]
/-- By place of the rectangles. -/
def tagD (a b : Nat) (d : Dr) : Dr := ⟨a, b, d.x0, d.z0, d.x1, d.z1⟩
def ltKD (d e : Dr) : Prop := d.x0 < e.x0 ∨ d.x0 = e.x0 ∧ d.z0 < e.z0
theorem addD_keys (l : List Dr) (d : Dr) : ((addD l d).map fun e => (e.x0, e.z0)).Sublist ((l.map fun e => (e.x0, e.z0)) ++ [(d.x0, d.z0)]) := by
  unfold addD
  split
  · rename_i g hg
    obtain ⟨ys, rfl⟩ := List.getLast?_eq_some_iff.1 hg
    split
    · rw [List.dropLast_concat]
      simp only [List.map_append, List.map_cons, List.map_nil]
      exact List.sublist_append_left _ _
    · rw [List.map_append]; exact List.Sublist.refl _
  · rw [List.map_append]; exact List.Sublist.refl _
theorem foldD_keys (m l : List Dr) : ((m.foldl addD l).map fun e => (e.x0, e.z0)).Sublist ((l.map fun e => (e.x0, e.z0)) ++ m.map fun e => (e.x0, e.z0)) := by
  induction m generalizing l with
  | nil => simp
  | cons d m ih =>
    rw [List.foldl_cons, List.map_cons]
    refine (ih _).trans ?_
    rw [show (l.map fun e => (e.x0, e.z0)) ++ (d.x0, d.z0) :: m.map (fun e => (e.x0, e.z0)) = ((l.map fun e => (e.x0, e.z0)) ++ [(d.x0, d.z0)]) ++ m.map (fun e => (e.x0, e.z0)) by simp]
    exact (addD_keys l d).append_right _
theorem joinD_rise {l : List Dr} (h : l.Pairwise ltKD) : (joinD l).Pairwise ltKD := by
  have h1 : (l.map fun e => (e.x0, e.z0)).Pairwise (fun p q => p.1 < q.1 ∨ p.1 = q.1 ∧ p.2 < q.2) := List.pairwise_map.2 h
  have h2 := foldD_keys l []
  simp only [List.map_nil, List.nil_append] at h2
  have h3 := h1.sublist h2
  rw [List.pairwise_map] at h3
  exact h3
theorem prs_rise (cf : Cfg) (a b : Rc) (up : Bool) : (prs cf a b up).Pairwise ltKD := by
  unfold prs prsTo
  rw [List.pairwise_flatMap]
  refine ⟨fun i _ => ?_, ?_⟩
  · unfold prOne
    split <;> simp
  · refine List.Pairwise.imp (R := fun i j : Nat => i < j) ?_ List.pairwise_lt_range
    intro i j hij d hd e he
    unfold prOne at hd he
    split at hd
    · split at he
      · rw [List.mem_singleton] at hd he
        subst hd he
        unfold ltKD prD
        have hij' : (i : Int) < (j : Int) := by exact_mod_cast hij
        cases up <;> simp only [Bool.false_eq_true, if_false, if_true, true_and] <;> omega
      · cases he
    · cases hd
theorem betw_rise (cf : Cfg) (a b : Rc) : (betw cf a b).Pairwise ltKD := by
  unfold betw
  split
  · rename_i h
    refine joinD_rise ?_
    obtain ⟨h1, h2, h3⟩ := prLen_one (rcOk_bd h.1) (rcOk_bd h.2)
    unfold betwL
    by_cases q1 : prLen a b true = 0
    · rw [prs_nil q1]
      by_cases q2 : prLen b a true = 0
      · rw [prs_nil q2]
        by_cases q3 : prLen a b false = 0
        · rw [prs_nil q3]
          exact prs_rise _ _ _ _
        · rw [prs_nil (h3 q3)]
          simp only [List.nil_append, List.append_nil]
          exact prs_rise _ _ _ _
      · obtain ⟨u, v⟩ := h2 q2
        rw [prs_nil u, prs_nil v]
        simp only [List.nil_append, List.append_nil]
        exact prs_rise _ _ _ _
    · obtain ⟨u, v, t⟩ := h1 q1
      rw [prs_nil u, prs_nil v, prs_nil t]
      simp only [List.append_nil]
      exact prs_rise _ _ _ _
  · exact List.Pairwise.nil

/-- The doors of a pair, by place. -/
def pairD (cf : Cfg) (rs : List Rc) (a b : Nat) : List Dr := match rs[a]?, rs[b]? with
  | some p, some q => (betw cf p q).map (tagD a b)
  | _, _ => []
/-- As the program finds them: up to b, and of b up to a. -/
def rowP (cf : Cfg) (rs : List Rc) (b k : Nat) : List Dr := (List.range k).flatMap fun a => pairD cf rs a b
def allP (cf : Cfg) (rs : List Rc) (k : Nat) : List Dr := (List.range k).flatMap fun b => rowP cf rs b b
/-- As the document finds them. -/
def rowQ (cf : Cfg) (rs : List Rc) (a k : Nat) : List Dr := (List.range k).flatMap fun i => pairD cf rs a (a + 1 + i)
def allQ (cf : Cfg) (rs : List Rc) (k : Nat) : List Dr := (List.range k).flatMap fun a => rowQ cf rs a (rs.length - (a + 1))
theorem pairD_mem {cf : Cfg} {rs : List Rc} {a b : Nat} {d : Dr} (h : d ∈ pairD cf rs a b) : d.a = a ∧ d.b = b ∧ a < rs.length ∧ b < rs.length := by
  unfold pairD at h
  split at h
  · rename_i p q hp hq
    obtain ⟨e, _, rfl⟩ := List.mem_map.1 h
    exact ⟨rfl, rfl, (List.getElem?_eq_some_iff.1 hp).1, (List.getElem?_eq_some_iff.1 hq).1⟩
  · cases h
theorem pairD_rise (cf : Cfg) (rs : List Rc) (a b : Nat) : (pairD cf rs a b).Pairwise ltD := by
  unfold pairD
  split
  · rw [List.pairwise_map]
    refine (betw_rise cf _ _).imp ?_
    intro d e h
    unfold ltKD at h
    unfold ltD tagD
    exact .inr ⟨rfl, .inr ⟨rfl, h⟩⟩
  · exact List.Pairwise.nil
theorem rowQ_rise (cf : Cfg) (rs : List Rc) (a k : Nat) : (rowQ cf rs a k).Pairwise ltD := by
  unfold rowQ
  rw [List.pairwise_flatMap]
  refine ⟨fun i _ => pairD_rise _ _ _ _, List.Pairwise.imp (R := fun i j : Nat => i < j) ?_ List.pairwise_lt_range⟩
  intro i j hij d hd e he
  obtain ⟨u1, u2, _⟩ := pairD_mem hd
  obtain ⟨v1, v2, _⟩ := pairD_mem he
  unfold ltD
  omega
theorem allQ_rise (cf : Cfg) (rs : List Rc) (k : Nat) : (allQ cf rs k).Pairwise ltD := by
  unfold allQ
  rw [List.pairwise_flatMap]
  refine ⟨fun i _ => rowQ_rise _ _ _ _, List.Pairwise.imp (R := fun i j : Nat => i < j) ?_ List.pairwise_lt_range⟩
  intro i j hij d hd e he
  obtain ⟨p, _, hp⟩ := List.mem_flatMap.1 hd
  obtain ⟨q, _, hq⟩ := List.mem_flatMap.1 he
  obtain ⟨u1, u2, _⟩ := pairD_mem hp
  obtain ⟨v1, v2, _⟩ := pairD_mem hq
  unfold ltD
  omega
theorem allP_mem {cf : Cfg} {rs : List Rc} {d : Dr} : d ∈ allP cf rs rs.length ↔ d ∈ allQ cf rs rs.length := by
  unfold allP allQ rowP rowQ
  simp only [List.mem_flatMap, List.mem_range]
  constructor
  · rintro ⟨b, hb, a, ha, h⟩
    refine ⟨a, by omega, b - (a + 1), by omega, ?_⟩
    rw [show a + 1 + (b - (a + 1)) = b by omega]
    exact h
  · rintro ⟨a, ha, i, hi, h⟩
    exact ⟨a + 1 + i, by omega, a, by omega, h⟩
theorem allP_nodup (cf : Cfg) (rs : List Rc) : (allP cf rs rs.length).Nodup := by
  unfold allP
  refine List.pairwise_flatMap.2 ⟨fun b _ => ?_, ?_⟩
  · unfold rowP
    refine List.pairwise_flatMap.2 ⟨fun a _ => ?_, ?_⟩
    · exact (pairD_rise cf rs a b).imp fun {d e} h (he : d = e) => ltD_irrefl d (by rw [← he] at h; exact h)
    · refine List.Pairwise.imp (R := fun i j : Nat => i < j) ?_ List.pairwise_lt_range
      intro i j hij d hd e he h
      obtain ⟨u1, u2, _⟩ := pairD_mem hd
      obtain ⟨v1, v2, _⟩ := pairD_mem he
      subst h
      omega
  · refine List.Pairwise.imp (R := fun i j : Nat => i < j) ?_ List.pairwise_lt_range
    intro i j hij d hd e he h
    obtain ⟨p, _, hp⟩ := List.mem_flatMap.1 hd
    obtain ⟨q, _, hq⟩ := List.mem_flatMap.1 he
    obtain ⟨u1, u2, _⟩ := pairD_mem hp
    obtain ⟨v1, v2, _⟩ := pairD_mem hq
    subst h
    omega
theorem allQ_nodup (cf : Cfg) (rs : List Rc) : (allQ cf rs rs.length).Nodup :=
  (allQ_rise cf rs _).imp fun {d e} h (he : d = e) => ltD_irrefl d (by rw [← he] at h; exact h)
theorem allPQ (cf : Cfg) (rs : List Rc) : (allP cf rs rs.length).Perm (allQ cf rs rs.length) :=
  (List.perm_ext_iff_of_nodup (allP_nodup cf rs) (allQ_nodup cf rs)).2 fun _ => allP_mem
/-- Sorted, they are as the document finds them. -/
theorem allQ_sorted {cf : Cfg} {rs : List Rc} {S : List Dr} (h1 : S.Perm (allP cf rs rs.length)) (h2 : S.Pairwise (fun p q => ¬ ltD q p)) : S = allQ cf rs rs.length := by
  have hp := h1.trans (allPQ cf rs)
  refine hp.eq_of_pairwise (le := fun p q => ¬ ltD q p) ?_ h2 ((allQ_rise cf rs _).imp fun h => ltD_asymm h)
  intro p q hp' hq' a1 a2
  have hq := hp.mem_iff.1 hp'
  obtain ⟨i, hi, rfl⟩ := List.getElem_of_mem hq
  obtain ⟨j, hj, rfl⟩ := List.getElem_of_mem hq'
  rcases Nat.lt_trichotomy i j with h | h | h
  · exact absurd (List.pairwise_iff_getElem.1 (allQ_rise cf rs _) i j hi hj h) a2
  · subst h; rfl
  · exact absurd (List.pairwise_iff_getElem.1 (allQ_rise cf rs _) j i hj hi h) a1
/-! ### How many -/
theorem prOne_len2 (cf : Cfg) (a b : Rc) (up : Bool) (n : Int) : (prOne cf a b up n).length ≤ 1 := by unfold prOne; split <;> simp
theorem prsTo_len2 (cf : Cfg) (a b : Rc) (up : Bool) (k : Nat) : (prsTo cf a b up k).length ≤ k := by
  induction k with
  | zero => simp [prsTo]
  | succ k ih => rw [prsTo_succ, List.length_append]; have := prOne_len2 cf a b up (prFrom a b up + (k : Int)); omega
theorem prs_len32 {cf : Cfg} {a b : Rc} {up : Bool} (ha : rcBd a = true) : (prs cf a b up).length ≤ 32 := by
  obtain ⟨u1, u2, u3, u4, u5, u6, _, _⟩ := rcBd_iff.1 ha
  refine Nat.le_trans (prsTo_len2 _ _ _ _ _) ?_
  unfold prLen
  split
  · cases up <;> simp only [prTo, prFrom, Bool.false_eq_true, if_false, if_true] <;> omega
  · omega
theorem foldD_len2 (m l : List Dr) : (m.foldl addD l).length ≤ l.length + m.length := by
  have h := (foldD_keys m l).length_le
  simpa using h
theorem betw_len (cf : Cfg) (a b : Rc) : (betw cf a b).length ≤ 128 := by
  unfold betw
  split
  · rename_i h
    have ha := rcOk_bd h.1
    have hb := rcOk_bd h.2
    have h1 := foldD_len2 (betwL cf a b) []
    unfold joinD
    have := prs_len32 (cf := cf) (a := a) (b := b) (up := true) ha
    have := prs_len32 (cf := cf) (a := b) (b := a) (up := true) hb
    have := prs_len32 (cf := cf) (a := a) (b := b) (up := false) ha
    have := prs_len32 (cf := cf) (a := b) (b := a) (up := false) hb
    unfold betwL at h1 ⊢
    simp only [List.length_append, List.length_nil] at h1
    omega
  · simp
theorem pairD_len (cf : Cfg) (rs : List Rc) (a b : Nat) : (pairD cf rs a b).length ≤ 128 := by
  unfold pairD
  split
  · rw [List.length_map]; exact betw_len _ _ _
  · simp
theorem rowP_succ (cf : Cfg) (rs : List Rc) (b k : Nat) : rowP cf rs b (k + 1) = rowP cf rs b k ++ pairD cf rs k b := by
  unfold rowP
  rw [List.range_succ, List.flatMap_append, List.flatMap_cons, List.flatMap_nil, List.append_nil]
theorem allP_succ (cf : Cfg) (rs : List Rc) (k : Nat) : allP cf rs (k + 1) = allP cf rs k ++ rowP cf rs k k := by
  unfold allP
  rw [List.range_succ, List.flatMap_append, List.flatMap_cons, List.flatMap_nil, List.append_nil]
theorem rowP_len (cf : Cfg) (rs : List Rc) (b k : Nat) : (rowP cf rs b k).length ≤ 128 * k := by
  induction k with
  | zero => simp [rowP]
  | succ k ih => rw [rowP_succ, List.length_append]; have := pairD_len cf rs k b; omega
theorem allP_len {cf : Cfg} {rs : List Rc} {k m : Nat} (hk : k ≤ m) : (allP cf rs k).length ≤ 128 * m * k := by
  induction k with
  | zero => simp [allP]
  | succ k ih =>
    rw [allP_succ, List.length_append]
    have h1 := rowP_len cf rs k k
    have h2 := ih (by omega)
    have h3 : 128 * k ≤ 128 * m := by omega
    rw [Nat.mul_succ]
    omega
theorem pairD_at {cf : Cfg} {rs : List Rc} {a b : Nat} {p q : Rc} (hp : rs[a]? = some p) (hq : rs[b]? = some q) : pairD cf rs a b = (betw cf p q).map (tagD a b) := by
  unfold pairD
  rw [hp, hq]
end Go.Proofs.YtmgkkmcihplojaaGreat

namespace Go.Proofs.YtmgkkmcihplojaaGreat

def rcN0 : Rc := ⟨0, 0, 0, 0, 0, [], []⟩
/-- The first height. -/
def y0R (r : Rc) : Int := r.ys.getD 0 0
def aheadR (a b : Rc) : Bool := decide (a.z0 < b.z0 ∨ a.z0 = b.z0 ∧ (a.x0 < b.x0 ∨ a.x0 = b.x0 ∧ y0R a < y0R b))
/-- Have two floors no height in common? -/
def clrF (f g : Flr) : Bool := !(decide (f.y < g.top) && decide (g.y < f.top))
def apRow (a b : Rc) (z : Int) (k : Nat) : Bool := (List.range k).all fun (i : Nat) => clrF (rcF a (max a.x0 b.x0 + (i : Int)) z) (rcF b (max a.x0 b.x0 + (i : Int)) z)
def apX (a b : Rc) : Nat := (min a.x1 b.x1 + 1 - max a.x0 b.x0).toNat
def apZ (a b : Rc) : Nat := (min a.z1 b.z1 + 1 - max a.z0 b.z0).toNat
def apTo (a b : Rc) (k : Nat) : Bool := (List.range k).all fun (i : Nat) => apRow a b (max a.z0 b.z0 + (i : Int)) (apX a b)
def apartR (a b : Rc) : Bool := apTo a b (apZ a b)
theorem all_range_succ (f : Nat → Bool) (k : Nat) : (List.range (k + 1)).all f = ((List.range k).all f && f k) := by
  rw [List.range_succ, List.all_append, List.all_cons, List.all_nil, Bool.and_true]
theorem apRow_succ (a b : Rc) (z : Int) (k : Nat) : apRow a b z (k + 1) = (apRow a b z k && clrF (rcF a (max a.x0 b.x0 + (k : Int)) z) (rcF b (max a.x0 b.x0 + (k : Int)) z)) := all_range_succ _ k
theorem apTo_succ (a b : Rc) (k : Nat) : apTo a b (k + 1) = (apTo a b k && apRow a b (max a.z0 b.z0 + (k : Int)) (apX a b)) := all_range_succ _ k
/-- A rectangle that may be has a floor in each of its columns. -/
theorem rcAt_in {cf : Cfg} {r : Rc} {x z : Int} (h : rcE cf r = 0) (h1 : r.x0 ≤ x) (h2 : x ≤ r.x1) (h3 : r.z0 ≤ z) (h4 : z ≤ r.z1) : (rcAt r x z).isSome = true := by
  have hk := (rcE_zero.1 h).2
  unfold rcOk rcLens at hk
  simp only [Bool.and_eq_true, decide_eq_true_eq] at hk
  obtain ⟨⟨hb, hy, ht⟩, _⟩ := hk
  obtain ⟨u1, u2, u3, u4, u5, u6, _, _⟩ := rcBd_iff.1 hb
  have hin : rcIn r x z = true := rcIn_iff.2 ⟨u1, u3, u4, u6, h1, h2, h3, h4⟩
  have hn := (rcN_bd hb).2.2
  have hK : 0 ≤ rcK r x z ∧ rcK r x z < (rcN r : Int) := by
    rw [hn]
    unfold rcK
    have a : 0 ≤ (z - r.z0) * (r.x1 - r.x0 + 1) := Int.mul_nonneg (by omega) (by omega)
    have b : (z - r.z0) * (r.x1 - r.x0 + 1) ≤ (r.z1 - r.z0) * (r.x1 - r.x0 + 1) := Int.mul_le_mul_of_nonneg_right (by omega) (by omega)
    have c : (r.x1 - r.x0 + 1) * (r.z1 - r.z0 + 1) = (r.z1 - r.z0) * (r.x1 - r.x0 + 1) + (r.x1 - r.x0 + 1) := by rw [Int.mul_add, Int.mul_one, Int.mul_comm]
    omega
  have hlt : (rcK r x z).toNat < rcN r := by omega
  unfold rcAt
  rw [if_pos hin, List.getElem?_eq_getElem (by omega), List.getElem?_eq_getElem (by omega)]
  rfl
theorem all_false {f : Nat → Bool} {n k : Nat} (hk : k < n) (h : f k = false) : (List.range n).all f = false := by
  cases e : (List.range n).all f with
  | false => rfl
  | true =>
    rw [List.all_eq_true] at e
    have := e k (List.mem_range.2 hk)
    rw [h] at this
    cases this
theorem apart_no {a b : Rc} {i k : Nat} (hi : i < apZ a b) (hk : k < apX a b) (h : clrF (rcF a (max a.x0 b.x0 + (k : Int)) (max a.z0 b.z0 + (i : Int))) (rcF b (max a.x0 b.x0 + (k : Int)) (max a.z0 b.z0 + (i : Int))) = false) : apartR a b = false :=
  all_false hi (all_false hk h)
/-- How many tiles in a row. -/
def tW (n : Int) : Int := (n - 1) / 8 + 1
def colOk (cf : Cfg) (tx tz : Int) : Bool := decide (0 ≤ tx) && decide (tx < tW cf.w) && (decide (0 ≤ tz) && decide (tz < tW cf.d))
def inT (cf : Cfg) (tx tz : Int) (r : Rc) : Bool := decide (tx * 8 ≤ r.x0) && decide (r.x1 < tx * 8 + min 8 (cf.w - tx * 8)) && (decide (tz * 8 ≤ r.z0) && decide (r.z1 < tz * 8 + min 8 (cf.d - tz * 8)))
/-- The k-th one, and all ahead of it. -/
def oneT (cf : Cfg) (tx tz : Int) (r : Rc) : Bool := decide (rcE cf r = 0) && inT cf tx tz r
def ahT (rs : List Rc) (r : Rc) (k : Nat) : Bool := (List.range k).all fun i => aheadR (rs.getD i rcN0) r && apartR (rs.getD i rcN0) r
def stepP (cf : Cfg) (tx tz : Int) (rs : List Rc) (k : Nat) : Bool := oneT cf tx tz (rs.getD k rcN0) && ahT rs (rs.getD k rcN0) k
def stepsP (cf : Cfg) (tx tz : Int) (rs : List Rc) (k : Nat) : Bool := (List.range k).all (stepP cf tx tz rs)
/-- What doors.Build tells: its error. -/
def bldE (cf : Cfg) (rs : List Rc) : Int := if cfgOk cf then if rs.all (rcOk cf) then if (allP cf rs rs.length).length ≤ 400 then 0 else 51 else 2 else 20
/-- May the tile be? -/
def tlOk (cf : Cfg) (tx tz : Int) (rs : List Rc) (ds : List Dr) : Bool := colOk cf tx tz && decide (rs.length ≤ 96) && stepsP cf tx tz rs rs.length && (decide (bldE cf rs = 0) && decide (allQ cf rs rs.length = ds))
def tlE (cf : Cfg) (tx tz : Int) (rs : List Rc) (ds : List Dr) : Int := if cfgOk cf then if tlOk cf tx tz rs ds then 0 else 2 else 20
end Go.Proofs.YtmgkkmcihplojaaGreat
