/- Bytes: numbers written behind a row of one's own (the soup's texts' lemmas, by other names: a seat without soups). -/
import Derived.Test.YtgfmdgiepomkiaaGreatKb
import Derived.Test.YtgfmdgiepomkiaaGreatNumV
import Derived.Test.YtgfmdgiepomkiaaGreatGa
import Derived.Test.YtgfmdgiepomkiaaGreatGo
import Derived.Test.YtgfmdgiepomkiaaGreatGp
import Derived.Test.YtgfmdgiepomkiaaGreatKa
namespace Go.Proofs.YtgfmdgiepomkiaaGreat
open Go.RowKit Go.Sort

theorem encsB_append (a b : List Int) : encs (a ++ b) = encs a ++ encs b := by simp [encs]
theorem zigB_le {y : Int} (h : -2048 ≤ y ∧ y ≤ 2048) : (zig y : Int) ≤ 4096 := by unfold zig; split <;> omega
/-- The numbers that are written. -/
def nOkB (x : Int) : Prop := 0 ≤ x ∧ x ≤ 4398046511104
theorem nOkB_i64 {x : Int} (h : nOkB x) : 0 ≤ x ∧ x ≤ 9223372036854775807 := by unfold nOkB at h; omega
theorem encsB_len {l : List Int} {m : Nat} (hm : l.length = m) (h : ∀ x ∈ l, nOkB x) : (encs l).length ≤ 9 * m := by
 have := encs_length_le l (fun x hx => (nOkB_i64 (h x hx)).2)
 omega
theorem put_newB (B : Nat) (v : Value) (n : Nat) (xs ns : List Int) (m j : Nat) (w : World) (hm : ns.length = m) (hj : w.heap.size = j) (hown : OwnI .u8 5 B w v n xs) (hB : B ≤ w.heap.size)
  (hr : ∀ x ∈ ns, nOkB x) (hm63 : m ≤ 1000) (hn : n + 9 * m ≤ 1099511627776) :
  Calls Tryz.prog 19 #[v, .slice (some ⟨j, 0, none⟩) m m] (w.alloc (.cells (ns.map (Value.int .i64)).toArray 3)) fun e w' => ∃ v', e = .returned v' ∧ OwnI .u8 5 B w' v' (n + (encs ns).length) (xs ++ encs ns) ∧ Appd w w' v v' := by
 subst hm
 subst hj
 refine (put_any B v n xs (some ⟨w.heap.size, 0, none⟩) ns.length ns.length ns _ (hown.alloc _) (by simp; omega) (SlI.lits w ns _ (by omega)) (fun x hx => nOkB_i64 (hr x hx)) ?_ hn).mono ?_
 ·
  intro ad had
  cases had
  intro h
  have := hown.lt _ h
  simp at this
 ·
  rintro e w' ⟨v', rfl, ho, hp⟩
  exact ⟨v', rfl, ho, (Appd.alloc (Appd.refl w v) _).trans hp⟩
theorem cell_pastB {w : World} {p : Addr} {v : Value} {o : Obj} (h : w.cell? p = some v) : (w.alloc o).cell? p = some v := hbc ((Below.refl _ _).alloc (Nat.le_refl _) o) h
theorem OwnI.neB {k : IntKind} {e : TypeId} {B : Nat} {w : World} {v : Value} {n : Nat} {xs : List Int} (h : OwnI k e B w v n xs) {j : Nat} (hj : w.heap.size ≤ j) : some j ≠ v.ownBlock := by
 intro he
 have := (h.lt j he.symm).2
 omega
/-- v is one's own row of bytes; since w0 only the row v0, and what is new, has turned. -/
structure WriB (B : Nat) (w0 : World) (v0 : Value) (W : World) (v : Value) (n : Nat) (xs : List Int) : Prop where
 own : OwnI .u8 5 B W v n xs
 app : Appd w0 W v0 v
 le : B ≤ w0.heap.size
theorem WriB.cell {B : Nat} {w0 W : World} {v0 v : Value} {n : Nat} {xs : List Int} (h : WriB B w0 v0 W v n xs) {p : Addr} {u : Value} (hc : w0.cell? p = some u) (hne : some p.block ≠ v0.ownBlock) : W.cell? p = some u := h.app.grown.cell hc hne
theorem WriB.below {B : Nat} {w0 W w1 : World} {v0 v : Value} {n m : Nat} {xs ys : List Int} (h : WriB B w0 v0 W v n xs) (ho : OwnI .u8 5 B w0 v0 m ys) (hb : Below B w1 w0) : Below B w1 W := hb.trans (h.app.below h.le ho.le)
theorem OwnI.toB {k : IntKind} {e : TypeId} {B : Nat} {w : World} {v : Value} {n : Nat} {xs : List Int} (h : OwnI k e B w v n xs) {ys : List Int} (hx : xs = ys) : OwnI k e B w v ys.length ys := by
 subst hx
 have := h.length
 subst this
 exact h
end Go.Proofs.YtgfmdgiepomkiaaGreat

namespace Go.Proofs.YtgfmdgiepomkiaaGreat

def cellN (r : Rc) (k : Nat) : List Int := [(zig (r.ys.getD k 0) : Int), r.ts.getD k 0 - r.ys.getD k 0]
def colsN (r : Rc) (k : Nat) : List Int := (List.range k).flatMap (cellN r)
def rcN5 (r : Rc) : List Int := [r.x0, r.z0, r.x1 - r.x0, r.z1 - r.z0, r.area]
def rcNs (r : Rc) : List Int := rcN5 r ++ colsN r r.ys.length
def tileN (tx tz : Int) (rs : List Rc) : List Int := [tx, tz, (rs.length : Int)] ++ rs.flatMap rcNs
/-- What code.Tile writes. -/
def tileB (cf : Cfg) (tx tz : Int) (rs : List Rc) (ds : List Dr) : List Int := if tlE cf tx tz rs ds = 0 then encs (tileN tx tz rs) else []
theorem colsN_succ (r : Rc) (k : Nat) : colsN r (k + 1) = colsN r k ++ cellN r k := by
 unfold colsN
 rw [List.range_succ, List.flatMap_append, List.flatMap_cons, List.flatMap_nil, List.append_nil]
/-- The floors of a rectangle that may be. -/
theorem rc_cell {cf : Cfg} {r : Rc} (h : rcE cf r = 0) {k : Nat} (hk : k < r.ys.length) : (-2048 ≤ r.ys.getD k 0 ∧ r.ys.getD k 0 ≤ 2048) ∧ r.ys.getD k 0 < r.ts.getD k 0 ∧ r.ts.getD k 0 ≤ 1048576 := by
 have ho := (rcE_zero.1 h).2
 unfold rcOk rcLens at ho
 simp only [Bool.and_eq_true, decide_eq_true_eq] at ho
 obtain ⟨⟨hb, hy, ht⟩, hall⟩ := ho
 obtain ⟨u1, u2, u3, u4, u5, u6, _, _⟩ := rcBd_iff.1 hb
 have hn := (rcN_bd hb).2.2
 have hkN : k < rcN r := by omega
 rw [List.all_eq_true] at hall
 have hc := hall k (List.mem_range.2 hkN)
 unfold rcCell rcCol at hc
 simp only [Bool.and_eq_true] at hc
 have hg := hc.1.1
 obtain ⟨W, hW⟩ : ∃ W : Nat, (W : Int) = r.x1 - r.x0 + 1 := ⟨(r.x1 - r.x0 + 1).toNat, by omega⟩
 obtain ⟨D, hD⟩ : ∃ D : Nat, (D : Int) = r.z1 - r.z0 + 1 := ⟨(r.z1 - r.z0 + 1).toNat, by omega⟩
 have hWt : (rcW r).toNat = W := by unfold rcW; omega
 rw [hWt] at hg
 have hWp : 0 < W := by omega
 have hND : rcN r = W * D := by
  have : ((rcN r : Nat) : Int) = ((W * D : Nat) : Int) := by rw [hn, Int.natCast_mul, hW, hD]
  exact_mod_cast this
 have hm : k % W < W := Nat.mod_lt _ hWp
 have hd : k / W < D := Nat.div_lt_of_lt_mul (by omega)
 have hdm := Nat.div_add_mod k W
 generalize k % W = qm at hm hdm hg
 generalize k / W = qd at hd hdm hg
 have hin : rcIn r (r.x0 + ((qm : Nat) : Int)) (r.z0 + ((qd : Nat) : Int)) = true := rcIn_iff.2 ⟨u1, u3, u4, u6, by omega, by omega, by omega, by omega⟩
 have hK : rcK r (r.x0 + ((qm : Nat) : Int)) (r.z0 + ((qd : Nat) : Int)) = (k : Int) := by
  unfold rcK
  rw [← hW, show r.z0 + ((qd : Nat) : Int) - r.z0 = ((qd : Nat) : Int) by omega]
  have h2 : ((qd : Nat) : Int) * (W : Int) + ((qm : Nat) : Int) = (k : Int) := by
   rw [← Int.natCast_mul, ← Int.natCast_add, Nat.mul_comm, hdm]
  omega
 have hyk : r.ys[k]? = some (r.ys.getD k 0) := by rw [List.getD_eq_getElem?_getD, List.getElem?_eq_getElem hk]; rfl
 have htk : r.ts[k]? = some (r.ts.getD k 0) := by rw [List.getD_eq_getElem?_getD, List.getElem?_eq_getElem (by omega)]; rfl
 unfold rcF rcAt at hg
 rw [hin, if_pos rfl, hK, Int.toNat_natCast, hyk, htk] at hg
 unfold hgtB at hg
 simp only [Option.getD_some, Bool.and_eq_true, decide_eq_true_eq] at hg
 omega
theorem rc_lens {cf : Cfg} {r : Rc} (h : rcE cf r = 0) : r.ts.length = r.ys.length ∧ r.ys.length ≤ 1024 := by
 have ho := (rcE_zero.1 h).2
 unfold rcOk rcLens at ho
 simp only [Bool.and_eq_true, decide_eq_true_eq] at ho
 obtain ⟨⟨hb, hy, ht⟩, _⟩ := ho
 have := rcN_bd hb
 omega
theorem cellN_ok {cf : Cfg} {r : Rc} (h : rcE cf r = 0) {k : Nat} (hk : k < r.ys.length) : ∀ x ∈ cellN r k, nOkB x := by
 intro x hx
 obtain ⟨h1, h2, h3⟩ := rc_cell h hk
 have hz := zigB_le h1
 simp only [cellN, List.mem_cons, List.not_mem_nil, or_false] at hx
 unfold nOkB
 omega
theorem rcN5_ok {cf : Cfg} {r : Rc} (h : rcE cf r = 0) : ∀ x ∈ rcN5 r, nOkB x := by
 intro x hx
 obtain ⟨u1, u2, u3, u4, u5, u6, u7, u8⟩ := rcBd_iff.1 (rcOk_bd h)
 simp only [rcN5, List.mem_cons, List.not_mem_nil, or_false] at hx
 unfold nOkB
 omega
structure TileF (cf : Cfg) (tx tz : Int) (rs : List Rc) : Prop where
 x : 0 ≤ tx ∧ tx ≤ 100
 z : 0 ≤ tz ∧ tz ≤ 100
 n : rs.length ≤ 96
 r : ∀ r ∈ rs, rcE cf r = 0
theorem tlE_F {cf : Cfg} {tx tz : Int} {rs : List Rc} {ds : List Dr} (h : tlE cf tx tz rs ds = 0) (hw : cfgOk cf = true → tW cf.w ≤ 100 ∧ tW cf.d ≤ 100) : TileF cf tx tz rs := by
 unfold tlE at h
 by_cases hc : cfgOk cf = true
 ·
  rw [if_pos hc] at h
  by_cases ho : tlOk cf tx tz rs ds = true
  ·
   unfold tlOk at ho
   simp only [Bool.and_eq_true, decide_eq_true_eq] at ho
   obtain ⟨⟨⟨h1, h2⟩, h3⟩, _⟩ := ho
   have hw := hw hc
   unfold colOk at h1
   simp only [Bool.and_eq_true, decide_eq_true_eq] at h1
   refine ⟨by omega, by omega, h2, fun r hr => ?_⟩
   obtain ⟨i, hi, rfl⟩ := List.getElem_of_mem hr
   unfold stepsP at h3
   rw [List.all_eq_true] at h3
   have h4 := h3 i (List.mem_range.2 hi)
   unfold stepP oneT at h4
   simp only [Bool.and_eq_true, decide_eq_true_eq] at h4
   have := h4.1.1
   rw [List.getD_eq_getElem?_getD, List.getElem?_eq_getElem hi] at this
   exact this
  ·
   rw [if_neg ho] at h; cases h
 ·
  rw [if_neg hc] at h; cases h
end Go.Proofs.YtgfmdgiepomkiaaGreat
