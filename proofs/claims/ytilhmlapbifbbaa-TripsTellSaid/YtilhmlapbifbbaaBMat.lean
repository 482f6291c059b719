/- Views of memory: rows of twelve truths that the call itself makes and writes. -/
import Derived.Test.YtilhmlapbifbbaaMark
import Derived.Test.YtilhmlapbifbbaaGrpP
import Derived.Deep.MidRow
import Derived.ChangeKeysEq
namespace Go.Proofs.Ytilhmlapbifbbaa
open Go.RowKit Go.Sort

def bcell (n : Nat) (f : Nat → Nat → Bool) : List Value := (List.range (n * 12)).map fun k => Value.bool (f (k / 12) (k % 12))
theorem bcell_at {n i j : Nat} {f : Nat → Nat → Bool} (hi : i < n) (hj : j < 12) : (bcell n f)[i * 12 + j]? = some (.bool (f i j)) := by
  unfold bcell
  rw [List.getElem?_map, List.getElem?_range (by omega)]
  have h1 : (i * 12 + j) / 12 = i := by omega
  have h2 : (i * 12 + j) % 12 = j := by omega
  simp only [Option.map_some, h1, h2]
theorem bcell_set {n a b : Nat} {f : Nat → Nat → Bool} (ha : a < n) (hb : b < 12) (x : Bool) : (bcell n f).set (a * 12 + b) (.bool x) = bcell n (stB f a b x) := by
  apply List.ext_getElem?
  intro k
  rw [List.getElem?_set]
  by_cases hk : k < n * 12
  · have e : k = k / 12 * 12 + k % 12 := by omega
    have h1 : k / 12 < n := by omega
    have h2 : k % 12 < 12 := by omega
    rw [e, bcell_at h1 h2, bcell_at h1 h2]
    unfold stB
    by_cases hh : a * 12 + b = k / 12 * 12 + k % 12
    · have e1 : k / 12 = a := by omega
      have e2 : k % 12 = b := by omega
      rw [if_pos hh, if_pos (by simp [bcell]; omega), if_pos ⟨e1, e2⟩]
    · rw [if_neg hh, if_neg (by rintro ⟨e1, e2⟩; exact hh (by rw [e1, e2]))]
  · rw [if_neg (by omega), List.getElem?_eq_none (by simp [bcell]; omega), List.getElem?_eq_none (by simp [bcell]; omega)]
theorem bcell_congr {n : Nat} {f f' : Nat → Nat → Bool} (h : ∀ i j, i < n → j < 12 → f i j = f' i j) : bcell n f = bcell n f' := by
  unfold bcell
  apply List.map_congr_left
  intro k hk
  have := List.mem_range.1 hk
  rw [h _ _ (by omega) (by omega)]

/-- n rows of twelve, in the block g. -/
structure BMat (H : Nat) (w : World) (g n : Nat) (f : Nat → Nat → Bool) : Prop where
  lo : H ≤ g
  blk : ∃ cur, w.heap[g]? = some (.cells cur 104 (0, 0)) ∧ cur.toList.take (n * 12) = bcell n f

section
variable {H : Nat} {w : World} {g n : Nat} {f : Nat → Nat → Bool}
theorem BMat.lt (h : BMat H w g n f) : g < w.heap.size := by
  obtain ⟨cur, h1, _⟩ := h.blk
  exact (Array.getElem?_eq_some_iff.1 h1).1
theorem BMat.kept {w' : World} (h : BMat H w g n f) (hk : w'.heap[g]? = w.heap[g]?) : BMat H w' g n f := by
  obtain ⟨cur, h1, h2⟩ := h.blk
  exact ⟨h.lo, cur, hk.trans h1, h2⟩
theorem BMat.below {w' : World} (h : BMat H w g n f) {B : Nat} (hb : Below B w w') (hB : w.heap.size ≤ B) : BMat H w' g n f := h.kept (hb.block g (Nat.lt_of_lt_of_le h.lt hB))
theorem BMat.alloc (h : BMat H w g n f) (o : Obj) : BMat H (w.alloc o) g n f := h.kept (Below.heap_alloc w o g h.lt)
theorem BMat.cell (h : BMat H w g n f) {i j : Nat} (hi : i < n) (hj : j < 12) : w.cell? ⟨g, i * 12 + j, none⟩ = some (.bool (f i j)) ∧ w.frozen? ⟨g, i * 12 + j, none⟩ = false := by
  obtain ⟨cur, h1, h2⟩ := h.blk
  have h3 := congrArg (fun l => l[i * 12 + j]?) h2
  simp only [bcell_at hi hj, List.getElem?_take, show i * 12 + j < n * 12 by omega, if_true] at h3
  have h4 : cur[i * 12 + j]? = some (.bool (f i j)) := by simpa using h3
  exact ⟨by simp [World.cell?, h1, h4], by simp [World.frozen?, h1]⟩
theorem BMat.set (h : BMat H w g n f) {a b : Nat} (ha : a < n) (hb : b < 12) (x : Bool) : BMat H (w.setCell ⟨g, a * 12 + b, none⟩ (.bool x)) g n (stB f a b x) := by
  obtain ⟨cur, h1, h2⟩ := h.blk
  refine ⟨h.lo, cur.setIfInBounds (a * 12 + b) (.bool x), heap_setCell_same w g _ cur _ _ h1, ?_⟩
  rw [Array.toList_setIfInBounds, List.take_set, h2, bcell_set ha hb]
theorem BMat.congr {f' : Nat → Nat → Bool} (h : BMat H w g n f) (hf : ∀ i j, i < n → j < 12 → f i j = f' i j) : BMat H w g n f' := by
  obtain ⟨cur, h1, h2⟩ := h.blk
  exact ⟨h.lo, cur, h1, by rw [h2, bcell_congr hf]⟩
theorem BMat.of_own {H g n cap : Nat} {w : World} (h : w.ownsRow H 104 12 (.slice (some ⟨g, 0, none⟩) n cap) n (madeCells (Array.replicate 12 (.bool false)) (n * 12)).toList) : BMat H w g n (fun _ _ => false) := by
  rcases h.2 with ⟨h0, _⟩ | ⟨g', cap', cur, e, hB, hg, _, _, _, ht⟩
  · cases h0
  · cases e
    refine ⟨hB, cur, hg, ht.trans ?_⟩
    unfold madeCells bcell
    rw [Array.toList_map, Array.toList_range]
    apply List.map_congr_left
    intro k hk
    have h1 : k % 12 < 12 := Nat.mod_lt _ (by decide)
    simp [h1]
/-- It is not a block of another kind. -/
theorem BMat.ne_block (h : BMat H w g n f) {k : Nat} {cs : Array Value} {t : TypeId} {x : Nat × Nat} (hk : w.heap[k]? = some (.cells cs t x)) (ht : t ≠ 104) : k ≠ g := by
  rintro rfl
  obtain ⟨cur, h1, _⟩ := h.blk
  rw [h1] at hk
  cases hk
  exact ht rfl
/-- Row i, as cells. -/
def bRow (f : Nat → Nat → Bool) (i : Nat) : List Value := (List.range 12).map fun j => .bool (f i j)
theorem bRow_len (f : Nat → Nat → Bool) (i : Nat) : (bRow f i).length = 12 := by simp [bRow]
theorem BMat.range (h : BMat H w g n f) {i : Nat} (hi : i < n) : w.rangeAt g (i * 12) (bRow f i) := fun j v hv => by
  have hj : j < 12 := by have := (List.getElem?_eq_some_iff.1 hv).1; rwa [bRow_len] at this
  simp only [bRow, List.getElem?_map, List.getElem?_range hj, Option.map_some, Option.some.injEq] at hv
  rw [(h.cell hi hj).1, ← hv]
end

theorem cells_12 : (Try.prog.info? 104).map (fun i => i.size) = some 12 := by kernel_rfl
theorem load12 {w : World} {b o : Nat} {cs : List Value} (h : w.rangeAt b o cs) (hl : cs.length = 12) : (Instr.loadAt 104 (.pointer (some ⟨b, o, none⟩))).run Try.prog w = .ok (.agg cs.toArray) w :=
  run_loadAt_mid w b o 104 cs _ h Try.underlying104 rfl (by rw [cells_12, hl])
theorem load12v {w : World} {b o : Nat} {cs : List Value} (h : w.rangeAt b o cs) (hl : cs.length = 12) : (loadVar 104 ⟨b, o, none⟩).run Try.prog w = .ok (.agg cs.toArray) w :=
  run_loadVar_mid w b o 104 cs _ h Try.underlying104 rfl (by rw [cells_12, hl])
theorem range_regrown {w : World} {b o : Nat} {cs : List Value} (h : w.rangeAt b o cs) (d : Nat) (os : Array Obj) : (grow (redrawn w d) os).rangeAt b o cs := fun j v hv => cell_regrown (h j v hv) d os

theorem eq_items (w : World) (d : Nat) (p q : Nat → Bool) (xs ys : Array Value) : ∀ is : List Nat, (∀ i ∈ is, xs[i * 1]? = some (.bool (p i)) ∧ ys[i * 1]? = some (.bool (q i))) →
    (Op.eqItems (d + 1) 4 1 xs ys is).run Try.prog w = .ok (is.all fun i => p i == q i) w
  | [], _ => by simp [Op.eqItems]
  | i :: is, h => by
    have ih := eq_items w d p q xs ys is (fun j hj => h j (List.mem_cons_of_mem _ hj))
    obtain ⟨h1, h2⟩ := h i (by simp)
    have hag : (isAgg 4).run Try.prog w = .ok false w := by
      unfold isAgg
      rw [Sem.run_bind, run_underlying Try.underlying4 w]
      rfl
    have hp : ∀ (cs : Array Value) (x : Bool), cs[i * 1]? = some (.bool x) → (part 4 cs (i * 1)).run Try.prog w = .ok (.bool x) w := fun cs x hc => by
      unfold part
      rw [Sem.run_bind, hag]
      simp only [Result.andThen_ok, Bool.false_eq_true, if_false, hc, Sem.run_pure]
    simp only [Op.eqItems, Sem.run_bind, hp _ _ h1, hp _ _ h2, Result.andThen_ok, run_equalIn_bool' w d 4 (p i) (q i) Try.underlying4, List.all_cons]
    cases hpq : (p i == q i)
    · simp
    · simpa using ih
theorem eq12d (w : World) (d : Nat) (f : Nat → Nat → Bool) (a b : Nat) : (Op.equalIn (d + 2) 104 (.agg (bRow f a).toArray) (.agg (bRow f b).toArray)).run Try.prog w = .ok (reqv f a b) w := by
  have hc : Try.prog.cellsOf 4 = 1 := by kernel_rfl
  have hs : (Try.prog.info? 4).isSome = true := by kernel_rfl
  obtain ⟨i, hi⟩ := Option.isSome_iff_exists.1 hs
  have h0 := run_equalIn_array (P := Try.prog) (w := w) (d + 1) (bRow f a).toArray (bRow f b).toArray Try.underlying104 hi
  rw [hc] at h0
  refine h0.trans ?_
  rw [eq_items w d (f a) (f b)]
  · rfl
  · intro j hj
    have hj12 : j < 12 := by simpa using hj
    rw [Nat.mul_one]
    simp [bRow, hj12]
theorem eq12 (w : World) (f : Nat → Nat → Bool) (a b : Nat) : (Op.equalIn 10000 104 (.agg (bRow f a).toArray) (.agg (bRow f b).toArray)).run Try.prog w = .ok (reqv f a b) w := eq12d w 9998 f a b

end Go.Proofs.Ytilhmlapbifbbaa
