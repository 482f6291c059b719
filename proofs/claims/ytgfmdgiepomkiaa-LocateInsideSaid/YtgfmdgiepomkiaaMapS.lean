/- A map of pairs of places: how it is written, how one goes over it. -/
import Derived.Test.YtgfmdgiepomkiaaGp
import Derived.DeepKeys4
import Derived.WideKeyElems
import Derived.WideKeyPair
import Derived.Carry
import Derived.Laws.IdiomRangeMap
namespace Go.Proofs.Ytgfmdgiepomkiaa
open Go.RowKit
open Go.ChangeMaps (setBlock heap_setBlock_same heap_setBlock_other)

theorem laidOutM : laidOutB Try.prog = true := by kernel_rfl
theorem sides_law : WideMaps.KeyLaw Try.prog 173 := deep_law_laid laidOutM (m := 3) (by omega) (of_decide_eq_true (by kernel_rfl)) (by kernel_rfl) (by kernel_rfl)
theorem sides_key (a b : Int) (ha : (Lit.int .i64 a).wf = true) (hb : (Lit.int .i64 b).wf = true) : ∃ kl, keyOf Try.prog 173 (.agg #[.int .i64 a, .int .i64 b]) = some kl := by
  have e0 : Try.prog.keyType 173 = true := by kernel_rfl
  unfold keyOf
  rw [Try.underlying173]
  dsimp only
  rw [e0]
  obtain ⟨m, hm⟩ : ∃ m, Try.prog.types.size = m + 1 := ⟨Try.prog.types.size - 1, by kernel_rfl⟩
  rw [hm]
  have e1 : Try.prog.cellsOf 173 = 2 := by kernel_rfl
  have e2 : Try.prog.cellsOf 3 = 1 := by kernel_rfl
  simp [Program.keyLits, Try.underlying173, Try.underlying3, e1, e2, ha, hb, Value.formed, Value.cells]
/-- A pair of places and whether it is there: which place then is one of n. -/
def SdOk (n : Nat) (x : MapEntry) : Prop := ∃ (a b : Nat) (q : Bool), x.key = .agg #[.int .i64 a, .int .i64 b] ∧ x.val = .bool q ∧ a ≤ 1000 ∧ b ≤ 1000 ∧ (q = true → a < n ∧ b < n)
/-- The block M holds a map of at most N such pairs. -/
structure SdMap (n M N : Nat) (W : World) (es : Array MapEntry) (clock : Nat) : Prop where
  blk : W.heap[M]? = some (.map es clock)
  ok : ∀ x ∈ es.toList, SdOk n x
  st : MapKept.Stamped es clock
  sz : es.size ≤ N
theorem wf_small {a : Nat} (h : a ≤ 1000) : (Lit.int .i64 (a : Int)).wf = true := by
  have h1 : IntKind.i64.min = -9223372036854775808 := by decide
  have h2 : IntKind.i64.max = 9223372036854775807 := by decide
  simp [Lit.wf]
  omega
theorem gb_setBlock (W : World) (M : Nat) (o' : Obj) : W.grownBy (setBlock W M o') (some M) :=
  ⟨rfl, rfl, rfl, by simp [setBlock], fun i hi hne => by
    show (W.heap.setIfInBounds M o')[i]? = W.heap[i]?
    rw [Array.getElem?_setIfInBounds_ne (by intro e; exact hne (by rw [e]))]⟩
theorem heap_setBlock {W : World} {M : Nat} {o o' : Obj} (h : W.heap[M]? = some o) : (setBlock W M o').heap[M]? = some o' := by
  have hM := (Array.getElem?_eq_some_iff.1 h).1
  show (W.heap.setIfInBounds M o')[M]? = some o'
  simp [hM]
theorem SdMap.update {n M N : Nat} {W : World} {es : Array MapEntry} {clock : Nat} (h : SdMap n M N W es clock) (a b : Nat) (q : Bool) (ha : a ≤ 1000) (hb : b ≤ 1000) (hq : q = true → a < n ∧ b < n) :
    ∃ es' clock', (Instr.mapUpdate 171 (.map (some M)) (.agg #[.int .i64 a, .int .i64 b]) (.bool q)).run Try.prog W = .ok () (setBlock W M (.map es' clock')) ∧ SdMap n M (N + 1) (setBlock W M (.map es' clock')) es' clock' := by
  obtain ⟨kl, hkey⟩ := sides_key a b (wf_small ha) (wf_small hb)
  have hks : ∀ e ∈ es.toList, ∃ l, keyOf Try.prog 173 e.key = some l := fun e he => by
    obtain ⟨a', b', q', h1, _, h3, h4, _⟩ := h.ok e he
    rw [h1]
    exact sides_key a' b' (wf_small h3) (wf_small h4)
  have hnew : ∀ born, SdOk n ⟨.agg #[.int .i64 a, .int .i64 b], .bool q, born⟩ := fun born => ⟨a, b, q, rfl, rfl, ha, hb, hq⟩
  rcases sides_law.find W hkey es.toList hks with ⟨h1, h2⟩ | ⟨j, e0, h1, h2, h3⟩
  · refine ⟨es.push ⟨_, .bool q, clock⟩, clock + 1, ?_, heap_setBlock h.blk, ?_, MapKept.stamped_push h.st h2, by have := h.sz; simp; omega⟩
    · simp [Instr.mapUpdate, run_underlying Try.underlying171, MapKept.run_getObj_map h.blk, sides_law.check W false hkey, h1, MapKept.run_setObj_map _ h.blk, Result.andThen, setBlock]
    · intro x hx
      simp only [Array.toList_push, List.mem_append, List.mem_singleton] at hx
      rcases hx with hx | rfl
      · exact h.ok x hx
      · exact hnew _
  · have hj : es[j]? = some e0 := by simpa using h2
    refine ⟨es.modify j (fun e' => { e' with key := .agg #[.int .i64 a, .int .i64 b], val := .bool q }), clock, ?_, heap_setBlock h.blk, ?_, MapKept.stamped_modify h.st _ _ (fun _ _ => rfl) (fun e' _ he' => by rw [hj] at he'; cases he'; exact h3.symm), by have := h.sz; simp; omega⟩
    · simp [Instr.mapUpdate, run_underlying Try.underlying171, MapKept.run_getObj_map h.blk, sides_law.check W false hkey, h1, hj, h3, sides_law.stays W hkey, MapKept.run_setObj_map _ h.blk, Result.andThen, setBlock]
    · intro x hx
      rcases MapFrom.mem_modify hx with hx | ⟨e', _, rfl⟩
      · exact h.ok x hx
      · exact hnew _
/-- One goes on over a map, wherever the iterator's block stands. -/
theorem next_at {P : Program} (W : World) (ty : TypeId) (I M since c0 : Nat) (seen : Array Nat) (es : Array MapEntry) (clock : Nat) (hI : W.heap[I]? = some (.mapIter (some M) since seen c0)) (hM : W.heap[M]? = some (.map es clock)) (hold : ∀ x ∈ es.toList, x.born < since) (hsc : since ≤ c0) :
    ((leftOf es seen).size = 0 ∧ (Instr.next (.pointer (some ⟨I, 0, none⟩)) false ty).run P W = .ok (.tuple #[.bool false]) W) ∨
    ∃ e ∈ (leftOf es seen).toList, ∃ W1 : World, (W1 = W ∨ W1 = W.drew) ∧ (Instr.next (.pointer (some ⟨I, 0, none⟩)) false ty).run P W = .ok (.tuple #[.bool true, e.key, e.val]) (setBlock W1 I (.mapIter (some M) since (seen.push e.born) clock)) := by
  simp only [Instr.next, getObj, Sem.run_bind, Sem.run, hI, hM, Result.andThen, next_test_false seen es since c0 hold hsc, Bool.false_eq_true, if_false]
  unfold leftOf
  have hmem : ∀ x ∈ (Array.filter (fun e => !seen.contains e.born) es).toList, x.born < since := fun x hx => hold x (by simp at hx ⊢; exact hx.1)
  generalize Array.filter (fun e => !seen.contains e.born) es = L at hmem ⊢
  have e1 : L.filter (fun x => decide (x.born < since)) = L := Array.filter_eq_self.2 (fun x hx => by simpa using hmem x (by simpa using hx))
  have e2 : L.filter (fun x => decide (x.born ≥ since)) = #[] := by
    rw [Array.filter_eq_empty_iff]
    intro x hx
    have := hmem x (by simpa using hx)
    simp
    omega
  simp only [e1, e2, Array.append_empty]
  by_cases h0 : L.size = 0
  · left
    have : L = #[] := Array.eq_empty_of_size_eq_zero h0
    subst this
    refine ⟨rfl, ?_⟩
    simp [choose, Sem.run, Question.forced]
  · right
    have hne : L.isEmpty = false := by simp [Array.isEmpty, h0]
    simp only [hne, Bool.false_eq_true, if_false, Array.empty_append, Array.size_map]
    have hch : ∃ (j : Nat) (W1 : World), j < L.size ∧ (W1 = W ∨ W1 = W.drew) ∧ (choose (Question.mapNext L.size)).run P W = .ok j W1 := by
      by_cases hf : L.size ≤ 1
      · exact ⟨0, W, by omega, .inl rfl, by simp [choose, Sem.run, Question.forced, hf]⟩
      · exact ⟨_, W.drew, Nat.mod_lt _ (by omega), .inr rfl, by
          simp only [choose, Sem.run, Question.forced, decide_eq_true_eq, hf, if_false, Question.cut]
          rfl⟩
    obtain ⟨j, W1, hj, hW1, hrun⟩ := hch
    refine ⟨L[j], by simp, W1, hW1, ?_⟩
    have hI1 : W1.heap[I]? = some (.mapIter (some M) since seen c0) := by rcases hW1 with rfl | rfl <;> exact hI
    have hset : ∀ o' : Obj, (setObj I o').run P W1 = .ok () (setBlock W1 I o') := fun o' => by simp [setObj, Sem.run, hI1, setBlock]
    simp only [hrun, Array.getElem?_map, Array.getElem?_eq_getElem hj, Option.map_some, Sem.run_bind, hset, Result.andThen]
    rfl
theorem entry_at {P : Program} (W : World) (I M since : Nat) (seen : Array Nat) (es : Array MapEntry) (clock : Nat) (e : MapEntry) (hI : W.heap[I]? = some (.mapIter (some M) since (seen.push e.born) clock)) (hM : W.heap[M]? = some (.map es clock)) (he : e ∈ es.toList) (hn : (es.toList.map (·.born)).Nodup) :
    (Instr.entry (.pointer (some ⟨I, 0, none⟩))).run P W = .ok (.tuple #[e.key, e.val]) W := by
  have hf : es.find? (·.born == e.born) = some e := by rw [← Array.find?_toList]; exact find_born e es.toList hn he
  simp only [Instr.entry, getObj, Sem.run_bind, Sem.run, hI, hM, Result.andThen, Array.back?_push, bne_self_eq_false, Bool.false_eq_true, if_false, hf]
  rfl
end Go.Proofs.Ytgfmdgiepomkiaa
