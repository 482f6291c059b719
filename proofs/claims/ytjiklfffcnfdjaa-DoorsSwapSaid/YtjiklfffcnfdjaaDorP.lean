/- Plain law: doors between two rectangles: the other way about, moved. -/
import Derived.Test.YtjiklfffcnfdjaaRctP
namespace Go.Proofs.Ytjiklfffcnfdjaa

/-- A door. -/
structure Dr where
  a : Int
  b : Int
  x0 : Int
  z0 : Int
  x1 : Int
  z1 : Int
deriving DecidableEq
/-- The pair of columns n across a's border to b, at its greater side: upright, or not. -/
def prAcross (a b : Rc) (up : Bool) : Bool := if up then decide (a.x1 + 1 = b.x0) else decide (a.z1 + 1 = b.z0)
def prFrom (a b : Rc) (up : Bool) : Int := if up then max a.z0 b.z0 else max a.x0 b.x0
def prTo (a b : Rc) (up : Bool) : Int := if up then min a.z1 b.z1 else min a.x1 b.x1
def prF (a : Rc) (up : Bool) (n : Int) : Flr := if up then rcF a a.x1 n else rcF a n a.z1
def prG (b : Rc) (up : Bool) (n : Int) : Flr := if up then rcF b b.x0 n else rcF b n b.z0
def prD (b : Rc) (up : Bool) (n : Int) : Dr := if up then ⟨0, 1, b.x0, n, b.x0, n + 1⟩ else ⟨0, 1, n, b.z0, n + 1, b.z0⟩
def prOne (cf : Cfg) (a b : Rc) (up : Bool) (n : Int) : List Dr := if lnk cf (prF a up n) (prG b up n) then [prD b up n] else []
def prLen (a b : Rc) (up : Bool) : Nat := if prAcross a b up then (prTo a b up + 1 - prFrom a b up).toNat else 0
/-- The open pairs, up to k columns. -/
def prsTo (cf : Cfg) (a b : Rc) (up : Bool) (k : Nat) : List Dr := (List.range k).flatMap fun (i : Nat) => prOne cf a b up (prFrom a b up + (i : Int))
def prs (cf : Cfg) (a b : Rc) (up : Bool) : List Dr := prsTo cf a b up (prLen a b up)
/-- A pair goes on with the last door, or begins one. -/
def addD (l : List Dr) (d : Dr) : List Dr := match l.getLast? with
  | some e => if e.x1 = d.x0 ∧ e.z1 = d.z0 then l.dropLast ++ [⟨e.a, e.b, e.x0, e.z0, d.x1, d.z1⟩] else l ++ [d]
  | none => l ++ [d]
def joinD (l : List Dr) : List Dr := l.foldl addD []
def betwL (cf : Cfg) (a b : Rc) : List Dr := prs cf a b true ++ (prs cf b a true ++ (prs cf a b false ++ prs cf b a false))
/-- What doors.Between tells. -/
def betw (cf : Cfg) (a b : Rc) : List Dr := if rcE cf a = 0 ∧ rcE cf b = 0 then joinD (betwL cf a b) else []
theorem prsTo_succ (cf : Cfg) (a b : Rc) (up : Bool) (k : Nat) : prsTo cf a b up (k + 1) = prsTo cf a b up k ++ prOne cf a b up (prFrom a b up + (k : Int)) := by
  unfold prsTo
  rw [List.range_succ, List.flatMap_append, List.flatMap_cons, List.flatMap_nil, List.append_nil]

/-- Have they a column in common? -/
def overR (a b : Rc) : Bool := decide (a.x0 ≤ b.x1) && decide (b.x0 ≤ a.x1) && decide (a.z0 ≤ b.z1) && decide (b.z0 ≤ a.z1)
theorem prs_nil {cf : Cfg} {a b : Rc} {up : Bool} (h : prLen a b up = 0) : prs cf a b up = [] := by unfold prs; rw [h]; rfl
theorem prLen_over {a b : Rc} {up : Bool} (h : overR a b = true) : prLen a b up = 0 := by
  unfold overR at h
  simp only [Bool.and_eq_true, decide_eq_true_eq] at h
  unfold prLen prAcross
  cases up <;> simp only [Bool.false_eq_true, if_false, if_true]
  · rw [if_neg (by simp; omega)]
  · rw [if_neg (by simp; omega)]
theorem overR_symm (a b : Rc) : overR a b = overR b a := by
  unfold overR
  rw [Bool.eq_iff_iff]
  simp only [Bool.and_eq_true, decide_eq_true_eq]
  constructor <;> (rintro ⟨⟨⟨h1, h2⟩, h3⟩, h4⟩; exact ⟨⟨⟨h2, h1⟩, h4⟩, h3⟩)
theorem betw_over {cf : Cfg} {a b : Rc} (h : overR a b = true) : betw cf a b = [] := by
  have h2 := (overR_symm a b).symm.trans h
  unfold betw betwL
  rw [prs_nil (prLen_over h), prs_nil (prLen_over h2), prs_nil (prLen_over h), prs_nil (prLen_over h2)]
  split <;> rfl
/-- One of the four at most tells of any. -/
theorem prLen_one {a b : Rc} (ha : rcBd a = true) (hb : rcBd b = true) :
    (prLen a b true ≠ 0 → prLen b a true = 0 ∧ prLen a b false = 0 ∧ prLen b a false = 0) ∧ (prLen b a true ≠ 0 → prLen a b false = 0 ∧ prLen b a false = 0) ∧ (prLen a b false ≠ 0 → prLen b a false = 0) := by
  obtain ⟨h1, h2, h3, h4, h5, h6, _, _⟩ := rcBd_iff.1 ha
  obtain ⟨k1, k2, k3, k4, k5, k6, _, _⟩ := rcBd_iff.1 hb
  unfold prLen prAcross prFrom prTo
  simp only [Bool.false_eq_true, if_false, if_true, decide_eq_true_eq]
  refine ⟨fun h => ?_, fun h => ?_, fun h => ?_⟩
  · have e : a.x1 + 1 = b.x0 := by
      refine Classical.byContradiction fun e => h ?_
      rw [if_neg e]
    refine ⟨?_, ?_, ?_⟩
    · rw [if_neg (by omega)]
    · split
      · omega
      · rfl
    · split
      · omega
      · rfl
  · have e : b.x1 + 1 = a.x0 := by
      refine Classical.byContradiction fun e => h ?_
      rw [if_neg e]
    refine ⟨?_, ?_⟩
    · split
      · omega
      · rfl
    · split
      · omega
      · rfl
  · have e : a.z1 + 1 = b.z0 := by
      refine Classical.byContradiction fun e => h ?_
      rw [if_neg e]
    rw [if_neg (by omega)]
theorem betwL_symm {cf : Cfg} {a b : Rc} (ha : rcBd a = true) (hb : rcBd b = true) : betwL cf b a = betwL cf a b := by
  obtain ⟨h1, h2, h3⟩ := prLen_one ha hb
  unfold betwL
  by_cases e1 : prLen a b true = 0
  · rw [prs_nil (cf := cf) e1]
    by_cases e2 : prLen b a true = 0
    · rw [prs_nil (cf := cf) e2]
      by_cases e3 : prLen a b false = 0
      · rw [prs_nil (cf := cf) e3]; simp
      · rw [prs_nil (cf := cf) (h3 e3)]; simp
    · obtain ⟨q1, q2⟩ := h2 e2
      rw [prs_nil (cf := cf) q1, prs_nil (cf := cf) q2]; simp
  · obtain ⟨q0, q1, q2⟩ := h1 e1
    rw [prs_nil (cf := cf) q0, prs_nil (cf := cf) q1, prs_nil (cf := cf) q2]; simp
theorem rcOk_bd {cf : Cfg} {r : Rc} (h : rcE cf r = 0) : rcBd r = true := by
  obtain ⟨_, h2⟩ := rcE_zero.1 h
  unfold rcOk at h2
  simp only [Bool.and_eq_true] at h2
  exact h2.1.1
theorem betw_symm (cf : Cfg) (a b : Rc) : betw cf b a = betw cf a b := by
  unfold betw
  by_cases h : rcE cf a = 0 ∧ rcE cf b = 0
  · rw [if_pos h, if_pos h.symm, betwL_symm (rcOk_bd h.1) (rcOk_bd h.2)]
  · rw [if_neg h, if_neg (fun q => h q.symm)]

/-! ### Moved -/
def mvR (r : Rc) (x z : Int) : Rc := ⟨r.x0 + x, r.z0 + z, r.x1 + x, r.z1 + z, r.area, r.ys, r.ts⟩
def mvD (d : Dr) (x z : Int) : Dr := ⟨d.a, d.b, d.x0 + x, d.z0 + z, d.x1 + x, d.z1 + z⟩
theorem rcK_mv (r : Rc) (x z u v : Int) : rcK (mvR r x z) (u + x) (v + z) = rcK r u v := by
  unfold rcK mvR
  simp only
  rw [show v + z - (r.z0 + z) = v - r.z0 by omega, show r.x1 + x - (r.x0 + x) + 1 = r.x1 - r.x0 + 1 by omega]
  omega
theorem rcF_mv {r : Rc} {x z u v : Int} (h1 : rcBd r = true) (h2 : rcBd (mvR r x z) = true) : rcF (mvR r x z) (u + x) (v + z) = rcF r u v := by
  obtain ⟨a1, a2, a3, a4, a5, a6, _, _⟩ := rcBd_iff.1 h1
  obtain ⟨b1, b2, b3, b4, b5, b6, _, _⟩ := rcBd_iff.1 h2
  have e : rcIn (mvR r x z) (u + x) (v + z) = rcIn r u v := by
    rw [Bool.eq_iff_iff, rcIn_iff, rcIn_iff]
    unfold mvR at b1 b2 b3 b4 b5 b6 ⊢
    simp only at b1 b2 b3 b4 b5 b6 ⊢
    omega
  unfold rcF rcAt
  rw [e, rcK_mv]
  rfl
theorem prOne_mv {cf : Cfg} {a b : Rc} {up : Bool} {x z n : Int} (ha : rcBd a = true) (hb : rcBd b = true) (ha' : rcBd (mvR a x z) = true) (hb' : rcBd (mvR b x z) = true) :
    prOne cf (mvR a x z) (mvR b x z) up (n + if up then z else x) = (prOne cf a b up n).map (mvD · x z) := by
  unfold prOne prF prG prD
  cases up
  · simp only [Bool.false_eq_true, if_false]
    rw [show (mvR a x z).z1 = a.z1 + z from rfl, show (mvR b x z).z0 = b.z0 + z from rfl, rcF_mv ha ha', rcF_mv hb hb']
    split
    · simp [mvD]; omega
    · rfl
  · simp only [if_true]
    rw [show (mvR a x z).x1 = a.x1 + x from rfl, show (mvR b x z).x0 = b.x0 + x from rfl, rcF_mv ha ha', rcF_mv hb hb']
    split
    · simp [mvD]; omega
    · rfl
theorem prs_mv {cf : Cfg} {a b : Rc} {up : Bool} {x z : Int} (ha : rcBd a = true) (hb : rcBd b = true) (ha' : rcBd (mvR a x z) = true) (hb' : rcBd (mvR b x z) = true) :
    prs cf (mvR a x z) (mvR b x z) up = (prs cf a b up).map (mvD · x z) := by
  have e1 : prFrom (mvR a x z) (mvR b x z) up = prFrom a b up + if up then z else x := by
    unfold prFrom mvR; cases up <;> simp <;> omega
  have e2 : prTo (mvR a x z) (mvR b x z) up = prTo a b up + if up then z else x := by
    unfold prTo mvR; cases up <;> simp <;> omega
  have e3 : prAcross (mvR a x z) (mvR b x z) up = prAcross a b up := by
    unfold prAcross mvR; cases up <;> simp <;> omega
  have e4 : prLen (mvR a x z) (mvR b x z) up = prLen a b up := by
    unfold prLen; rw [e1, e2, e3]; split
    · congr 1; omega
    · rfl
  unfold prs
  rw [e4]
  generalize prLen a b up = k
  induction k with
  | zero => rfl
  | succ k ih =>
    rw [prsTo_succ, prsTo_succ, List.map_append, ih, e1]
    congr 1
    rw [← prOne_mv ha hb ha' hb']
    congr 1
    omega
theorem addD_mv (l : List Dr) (d : Dr) (x z : Int) : addD (l.map (mvD · x z)) (mvD d x z) = (addD l d).map (mvD · x z) := by
  unfold addD
  rw [List.getLast?_map]
  cases l.getLast? with
  | none => simp
  | some e =>
    simp only [Option.map_some]
    have : ((mvD e x z).x1 = (mvD d x z).x0 ∧ (mvD e x z).z1 = (mvD d x z).z0) ↔ (e.x1 = d.x0 ∧ e.z1 = d.z0) := by unfold mvD; simp only; omega
    by_cases h : e.x1 = d.x0 ∧ e.z1 = d.z0
    · rw [if_pos h, if_pos (this.2 h), List.map_append, List.map_dropLast]
      rfl
    · rw [if_neg h, if_neg (fun q => h (this.1 q)), List.map_append]
      rfl
theorem joinD_mv (l : List Dr) (x z : Int) : joinD (l.map (mvD · x z)) = (joinD l).map (mvD · x z) := by
  unfold joinD
  have key : ∀ (l m : List Dr), (l.map (mvD · x z)).foldl addD (m.map (mvD · x z)) = (l.foldl addD m).map (mvD · x z) := by
    intro l
    induction l with
    | nil => intro m; rfl
    | cons d l ih => intro m; rw [List.map_cons, List.foldl_cons, List.foldl_cons, addD_mv, ih]
  exact key l []
theorem betw_mv {cf : Cfg} {a b : Rc} {x z : Int} (ha : rcE cf a = 0) (hb : rcE cf b = 0) (ha' : rcE cf (mvR a x z) = 0) (hb' : rcE cf (mvR b x z) = 0) : betw cf (mvR a x z) (mvR b x z) = (betw cf a b).map (mvD · x z) := by
  unfold betw
  rw [if_pos ⟨ha', hb'⟩, if_pos ⟨ha, hb⟩, ← joinD_mv]
  unfold betwL
  rw [prs_mv (rcOk_bd ha) (rcOk_bd hb) (rcOk_bd ha') (rcOk_bd hb'), prs_mv (rcOk_bd hb) (rcOk_bd ha) (rcOk_bd hb') (rcOk_bd ha'), prs_mv (rcOk_bd ha) (rcOk_bd hb) (rcOk_bd ha') (rcOk_bd hb'), prs_mv (rcOk_bd hb) (rcOk_bd ha) (rcOk_bd hb') (rcOk_bd ha')]
  simp only [List.map_append]
theorem mv_back (d : Dr) (x z : Int) : (⟨(mvD d x z).a, (mvD d x z).b, (mvD d x z).x0 - x, (mvD d x z).z0 - z, (mvD d x z).x1 - x, (mvD d x z).z1 - z⟩ : Dr) = d := by
  unfold mvD
  simp only
  congr 1 <;> omega
theorem betw_no {cf : Cfg} {a b : Rc} (h : ¬ (rcE cf a = 0 ∧ rcE cf b = 0)) : betw cf a b = [] := by unfold betw; rw [if_neg h]
end Go.Proofs.Ytjiklfffcnfdjaa
