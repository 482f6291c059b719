/- Bytes: numbers written behind a row of one's own (the soup's texts' lemmas, by other names: a seat without soups). -/
import Derived.Test.YtgfmdgiepomkiaaKb
import Derived.Test.YtgfmdgiepomkiaaNumV
import Derived.Test.YtgfmdgiepomkiaaGa
import Derived.Test.YtgfmdgiepomkiaaGo
import Derived.Test.YtgfmdgiepomkiaaGp
namespace Go.Proofs.Ytgfmdgiepomkiaa
open Go.RowKit Go.Sort

theorem encsB_append (a b : List Int) : encs (a ++ b) = encs a ++ encs b := by simp [encs]
theorem encsB_cons (x : Int) (l : List Int) : encs (x :: l) = enc x.toNat ++ encs l := by simp [encs]
theorem flatMapB_succ {α : Type} {f : α → List Int} {l : List α} {k : Nat} {x : α} (h : l[k]? = some x) : (l.take (k + 1)).flatMap f = (l.take k).flatMap f ++ f x := by
  rw [List.take_add_one, h]
  simp
theorem zigB_le {y : Int} (h : -2048 ≤ y ∧ y ≤ 2048) : (zig y : Int) ≤ 4096 := by unfold zig; split <;> omega
/-- The numbers that are written. -/
def nOkB (x : Int) : Prop := 0 ≤ x ∧ x ≤ 4398046511104
theorem nOkB_i64 {x : Int} (h : nOkB x) : 0 ≤ x ∧ x ≤ 9223372036854775807 := by unfold nOkB at h; omega
theorem encsB_len {l : List Int} {m : Nat} (hm : l.length = m) (h : ∀ x ∈ l, nOkB x) : (encs l).length ≤ 9 * m := by
  have := encs_length_le l (fun x hx => (nOkB_i64 (h x hx)).2)
  omega
theorem ncellB {w0 W : World} {p : Addr} {v : Value} (h : Below w0.heap.size w0 W) (hc : w0.cell? p = some v) : W.cell? p = some v := (h.cell (World.block_lt_of_cell? w0 _ hc)).trans hc
theorem put_newB (B : Nat) (v : Value) (n : Nat) (xs ns : List Int) (m j : Nat) (w : World) (hm : ns.length = m) (hj : w.heap.size = j) (hown : OwnI .u8 5 B w v n xs) (hB : B ≤ w.heap.size)
    (hr : ∀ x ∈ ns, nOkB x) (hm63 : m ≤ 1000) (hn : n + 9 * m ≤ 1099511627776) :
    Calls Try.prog 23 #[v, .slice (some ⟨j, 0, none⟩) m m] (w.alloc (.cells (ns.map (Value.int .i64)).toArray 3)) fun e w' => ∃ v', e = .returned v' ∧ OwnI .u8 5 B w' v' (n + (encs ns).length) (xs ++ encs ns) ∧ Appd w w' v v' := by
  subst hm
  subst hj
  refine (put_any B v n xs (some ⟨w.heap.size, 0, none⟩) ns.length ns.length ns _ (hown.alloc _) (by simp; omega) (SlI.lits w ns _ (by omega)) (fun x hx => nOkB_i64 (hr x hx)) ?_ hn).mono ?_
  · intro ad had
    cases had
    intro h
    have := hown.lt _ h
    simp at this
  · rintro e w' ⟨v', rfl, ho, hp⟩
    exact ⟨v', rfl, ho, (Appd.alloc (Appd.refl w v) _).trans hp⟩
theorem cell_pastB {w : World} {p : Addr} {v : Value} {o : Obj} (h : w.cell? p = some v) : (w.alloc o).cell? p = some v := hbc ((Below.refl _ _).alloc (Nat.le_refl _) o) h
theorem bel_putB {B : Nat} {w1 W W' : World} {o : Obj} {v v' : Value} {n : Nat} {xs : List Int} (hb : Below B w1 W) (hB : B ≤ W.heap.size) (ho : OwnI .u8 5 B W v n xs) (hp : Appd (W.alloc o) W' v v') : Below B w1 W' :=
  (hb.alloc hB o).trans (hp.below (by simp; omega) ho.le)
theorem bel_putB' {B : Nat} {w1 W W' : World} {o : Obj} {v v' : Value} {n : Nat} {xs : List Int} (hb : Below B w1 W) (hB : B ≤ W.heap.size) (ho : OwnI .u8 5 B W v n xs) (hp : Appd (W.alloc o).drew W' v v') : Below B w1 W' :=
  ((hb.alloc hB o).drew).trans (hp.below (by simp [World.drew]; omega) ho.le)
theorem OwnI.neB {k : IntKind} {e : TypeId} {B : Nat} {w : World} {v : Value} {n : Nat} {xs : List Int} (h : OwnI k e B w v n xs) {j : Nat} (hj : w.heap.size ≤ j) : some j ≠ v.ownBlock := by
  intro he
  have := (h.lt j he.symm).2
  omega
/-- v is one's own row of bytes; since w0 only the row v0, and what is new, has turned. -/
structure WriB (B : Nat) (w0 : World) (v0 : Value) (W : World) (v : Value) (n : Nat) (xs : List Int) : Prop where
  own : OwnI .u8 5 B W v n xs
  app : Appd w0 W v0 v
  le : B ≤ w0.heap.size
theorem WriB.cell {B : Nat} {w0 W : World} {v0 v : Value} {n : Nat} {xs : List Int} (h : WriB B w0 v0 W v n xs) {p : Addr} {u : Value} (hc : w0.cell? p = some u) (hne : some p.block ≠ v0.ownBlock) : W.cell? p = some u := h.app.grown.cell hc hne
theorem encB_le {x : Int} (h : nOkB x) : (enc x.toNat).length ≤ 9 := enc_length _ (by have := h.2; have := h.1; omega)
theorem encsB_single (x : Int) : encs [x] = enc x.toNat := by simp [encs]
theorem refputB_w (x : Int) (hx : nOkB x) (B : Nat) (w0 : World) (v0 : Value) (W : World) (v : Value) (n : Nat) (xs : List Int) (h : WriB B w0 v0 W v n xs) (hn : n ≤ 1099511627776) :
    Calls Try.prog 59 #[v, .int .i64 x] W fun e w' => ∃ v', e = .returned v' ∧ WriB B w0 v0 w' v' (n + (enc x.toNat).length) (xs ++ enc x.toNat) := by
  have hx0 := hx.1
  have hx1 := hx.2
  have he : ((x.toNat : Nat) : Int) = x := Int.toNat_of_nonneg hx0
  have := refput_any B v n xs x.toNat W h.own (Nat.le_trans h.le h.app.grown.size) (by omega) hn
  rw [he] at this
  exact this.mono (by rintro _ _ ⟨v', rfl, h1, h2⟩; exact ⟨v', rfl, h1, h.app.trans h2, h.le⟩)
theorem WriB.below {B : Nat} {w0 W w1 : World} {v0 v : Value} {n m : Nat} {xs ys : List Int} (h : WriB B w0 v0 W v n xs) (ho : OwnI .u8 5 B w0 v0 m ys) (hb : Below B w1 w0) : Below B w1 W := hb.trans (h.app.below h.le ho.le)
theorem WriB.start {B : Nat} {w : World} {v : Value} {n : Nat} {xs : List Int} (ho : OwnI .u8 5 B w v n xs) (hB : B ≤ w.heap.size) : WriB B w v w v n xs := ⟨ho, Appd.refl _ _, hB⟩
theorem OwnI.toB {k : IntKind} {e : TypeId} {B : Nat} {w : World} {v : Value} {n : Nat} {xs : List Int} (h : OwnI k e B w v n xs) {ys : List Int} (hx : xs = ys) : OwnI k e B w v ys.length ys := by
  subst hx
  have := h.length
  subst this
  exact h
theorem WriB.fin {B : Nat} {w1 w0 W : World} {v0 v : Value} {n n' m : Nat} {xs xs' l : List Int} (h : WriB B w0.drew v0 W v n' xs') (ho : OwnI .u8 5 B w0 v0 n xs) (hb : Below B w1 w0) (hx : xs' = xs ++ encs l) (hm : l.length = m) (hl : ∀ x ∈ l, nOkB x) :
    ∃ n', OwnI .u8 5 B W v n' (xs ++ encs l) ∧ n' ≤ n + 9 * m ∧ Below B w1 W := by
  refine ⟨_, h.own.toB hx, ?_, h.below (OwnI.drewN ho 1) hb.drew⟩
  rw [List.length_append]
  have := ho.length
  have := encsB_len hm hl
  omega
theorem refputB_1 (x : Int) (hx : nOkB x) (B : Nat) (w1 W : World) (v : Value) (n : Nat) (xs : List Int) (ho : OwnI .u8 5 B W v n xs) (hb : Below B w1 W) (hB : B ≤ w1.heap.size) (hn : n ≤ 1099511627776) :
    Calls Try.prog 59 #[v, .int .i64 x] W fun e w' => ∃ v' n', e = .returned v' ∧ OwnI .u8 5 B w' v' n' (xs ++ encs [x]) ∧ n' ≤ n + 9 ∧ Below B w1 w' := by
  refine (refputB_w x hx B W v W v n xs (WriB.start ho (Nat.le_trans hB hb.size)) hn).mono ?_
  rintro _ w' ⟨v', rfl, h⟩
  refine ⟨v', _, rfl, h.own.toB (by rw [encsB_single]), ?_, h.below ho hb⟩
  rw [List.length_append, encsB_single]
  have := ho.length
  have := encB_le hx
  omega
theorem bcBB {B : Nat} {w1 W : World} {p : Addr} {v : Value} (HB : B = w1.heap.size) (h : Below B w1 W) (hc : w1.cell? p = some v) : W.cell? p = some v := ncellB (HB ▸ h) hc
theorem ne_lowB {B : Nat} {w1 W : World} {p : Addr} {u v : Value} {n : Nat} {xs : List Int} (ho : OwnI .u8 5 B W v n xs) (HB : B = w1.heap.size) (hc : w1.cell? p = some u) : some p.block ≠ v.ownBlock := by
  intro he
  have h1 := (ho.lt _ he.symm).1
  have h2 := World.block_lt_of_cell? w1 _ hc
  omega
end Go.Proofs.Ytgfmdgiepomkiaa
