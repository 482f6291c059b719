/- Views of memory: a table that the call itself makes and writes. -/
import Derived.Test.YtilhmlapbifbbaaTab
import Derived.Laws.Rows
namespace Go.Proofs.Ytilhmlapbifbbaa
open Go.RowKit Go.Sort

/-- A row of one's own: its block, its capacity, what stands in it. -/
structure MRow where
  g : Nat
  c : Nat
  xs : List Int
def mrV (m : MRow) : Value := .slice (some ⟨m.g, 0, none⟩) m.xs.length m.c
def mTab (ms : List MRow) : List (List Int) := ms.map MRow.xs

/-- A row that is one's own, integer by integer. -/
structure MRowAt (B : Nat) (w : World) (m : MRow) : Prop where
  lo : B ≤ m.g
  blk : ∃ cur : Array Value, w.heap[m.g]? = some (.cells cur 3 (0, 0)) ∧ cur.size = m.c ∧ cur.toList.take m.xs.length = m.xs.map (Value.int .i64)
  le : m.xs.length ≤ m.c
  max : m.c ≤ maxLen

theorem MRowAt.lt {B : Nat} {w : World} {m : MRow} (h : MRowAt B w m) : m.g < w.heap.size := by
  obtain ⟨cur, h1, _⟩ := h.blk
  exact (Array.getElem?_eq_some_iff.1 h1).1
theorem MRowAt.of_own {B : Nat} {w : World} {v : Value} {n : Nat} {xs : List Int} (h : OwnI .i64 3 B w v n xs) (hn : 0 < n) : ∃ m : MRow, v = mrV m ∧ m.xs = xs ∧ MRowAt B w m := by
  have hl : xs.length = n := h.length
  rcases h.2 with ⟨_, h0⟩ | ⟨g, cap, cur, rfl, hB, hg, h1, h2, h3, h4⟩
  · omega
  · subst hl
    exact ⟨⟨g, cap, xs⟩, rfl, rfl, hB, ⟨cur, hg, by simpa using h3, by simpa using h4⟩, h1, h2⟩
theorem MRowAt.kept {B : Nat} {w w' : World} {m : MRow} (h : MRowAt B w m) (hk : w'.heap[m.g]? = w.heap[m.g]?) : MRowAt B w' m := by
  obtain ⟨cur, h1, h2⟩ := h.blk
  exact ⟨h.lo, ⟨cur, hk.trans h1, h2⟩, h.le, h.max⟩
theorem MRowAt.cell {B : Nat} {w : World} {m : MRow} (h : MRowAt B w m) {j : Nat} {x : Int} (hx : m.xs[j]? = some x) : w.cell? ⟨m.g, j, none⟩ = some (.int .i64 x) ∧ w.frozen? ⟨m.g, j, none⟩ = false := by
  obtain ⟨cur, h1, h2, h3⟩ := h.blk
  have hj := (List.getElem?_eq_some_iff.1 hx).1
  have h4 : cur[j]? = some (.int .i64 x) := by
    have := congrArg (fun l => l[j]?) h3
    simp only [List.getElem?_map, hx, Option.map_some, List.getElem?_take, hj, if_true] at this
    simpa using this
  exact ⟨by simp [World.cell?, h1, h4], by simp [World.frozen?, h1]⟩
theorem MRowAt.set {B : Nat} {w : World} {m : MRow} (h : MRowAt B w m) (j : Nat) (x : Int) : MRowAt B (w.setCell ⟨m.g, j, none⟩ (.int .i64 x)) { m with xs := m.xs.set j x } := by
  obtain ⟨cur, h1, h2, h3⟩ := h.blk
  refine ⟨h.lo, ⟨cur.setIfInBounds j (.int .i64 x), heap_setCell_same w m.g j cur _ _ h1, by simpa using h2, ?_⟩, by simpa using h.le, h.max⟩
  simp only [List.length_set]
  rw [Array.toList_setIfInBounds, List.take_set, h3, List.map_set]

/-- The table v, in blocks from B on, of the rows ms. -/
structure Mat (B : Nat) (w : World) (v : Value) (ms : List MRow) : Prop where
  own : w.ownsRow B 36 1 v ms.length (ms.map mrV)
  row : ∀ m ∈ ms, MRowAt B w m
  nd : (ms.map MRow.g).Nodup

theorem Mat.nil (B : Nat) (w : World) : Mat B w (.slice none 0 0) [] := ⟨World.ownsRow_nil _ _ _ _, (fun m hm => absurd hm (by simp)), List.nodup_nil⟩
theorem Mat.ne {B : Nat} {w : World} {v : Value} {ms : List MRow} (h : Mat B w v ms) {m : MRow} (hm : m ∈ ms) : v.ownBlock ≠ some m.g := by
  intro e
  rcases h.own.2 with ⟨rfl, _⟩ | ⟨g, cap, cur, rfl, _, hg, _⟩
  · simp [Value.ownBlock] at e
  · obtain ⟨c2, h1, _⟩ := (h.row m hm).blk
    have : g = m.g := by simpa [Value.ownBlock] using e
    rw [this, h1] at hg
    simp at hg
/-- What turns no block of it keeps it. -/
theorem Mat.kept {B : Nat} {w w' : World} {v : Value} {ms : List MRow} (h : Mat B w v ms) (hg : w.grownBy w' none) : Mat B w' v ms :=
  ⟨h.own.kept hg (by cases v.ownBlock <;> simp), fun m hm => (h.row m hm).kept (hg.block m.g (h.row m hm).lt (by simp)), h.nd⟩
theorem Mat.below {B : Nat} {w w' : World} {v : Value} {ms : List MRow} (h : Mat B w v ms) {B2 : Nat} (hb : Below B2 w w') (hB : w.heap.size ≤ B2) : Mat B w' v ms :=
  h.kept ⟨hb.os, hb.tape, hb.output, hb.size, fun k hk _ => hb.block k (by omega)⟩
theorem Mat.setOther {B : Nat} {w : World} {v : Value} {ms : List MRow} (h : Mat B w v ms) {a : Addr} (ha : v.ownBlock ≠ some a.block) (hr : ∀ m ∈ ms, m.g ≠ a.block) (u : Value) : Mat B (w.setCell a u) v ms := by
  have hg : w.grownBy (w.setCell a u) (some a.block) := ⟨rfl, rfl, rfl, by simp, fun k _ hne => Below.heap_setCell w a u k (fun e => hne (by rw [e]))⟩
  exact ⟨h.own.kept hg (.inr ha), fun m hm => (h.row m hm).kept (Below.heap_setCell w a u m.g (hr m hm)), h.nd⟩
/-- Its i-th row: the cell in which it stands. -/
theorem Mat.cell {B : Nat} {w : World} {v : Value} {ms : List MRow} (h : Mat B w v ms) {i : Nat} {m : MRow} (hm : ms[i]? = some m) : ∃ g cap, v = .slice (some ⟨g, 0, none⟩) ms.length cap ∧ ms.length ≤ cap ∧ cap ≤ 9223372036854775807 ∧ w.cell? ⟨g, i, none⟩ = some (mrV m) := by
  have hi := (List.getElem?_eq_some_iff.1 hm).1
  rcases h.own.2 with ⟨_, h0⟩ | ⟨g, cap, cur, rfl, _, hg, h1, h2, h3, h4⟩
  · omega
  · refine ⟨g, cap, rfl, h1, by simpa [maxLen] using h2, ?_⟩
    have := h.own.cells (g := g) rfl i (mrV m) (by simp [hm])
    rw [Addr.add_lit, Nat.zero_add] at this
    exact this
/-- A row more. -/
theorem Mat.push {B : Nat} {w w' : World} {v v' : Value} {ms : List MRow} {m : MRow} (h : Mat B w v ms) (hm : MRowAt B w m) (hnew : ∀ m' ∈ ms, m'.g ≠ m.g) (hg : w.grownBy w' v.ownBlock) (hne : v.ownBlock ≠ some m.g)
    (hown : w'.ownsRow B 36 1 v' (ms.length + 1) (ms.map mrV ++ [mrV m])) : Mat B w' v' (ms ++ [m]) := by
  refine ⟨by simpa using hown, fun m' hm' => ?_, ?_⟩
  · rcases List.mem_append.1 hm' with h1 | h1
    · exact (h.row m' h1).kept (hg.block m'.g (h.row m' h1).lt (fun e => h.ne h1 e.symm))
    · simp at h1
      subst h1
      exact hm.kept (hg.block _ hm.lt (fun e => hne e.symm))
  · rw [List.map_append, List.nodup_append]
    refine ⟨h.nd, by simp, ?_⟩
    intro a ha b hb
    simp at hb
    obtain ⟨m', h1, rfl⟩ := List.mem_map.1 ha
    rw [hb]
    exact hnew m' h1
/-- A number of it written anew. -/
theorem Mat.set {B : Nat} {w : World} {v : Value} {ms : List MRow} (h : Mat B w v ms) {i j : Nat} {m : MRow} (hm : ms[i]? = some m) (x : Int) :
    Mat B (w.setCell ⟨m.g, j, none⟩ (.int .i64 x)) v (ms.set i { m with xs := m.xs.set j x }) := by
  have hi := (List.getElem?_eq_some_iff.1 hm).1
  have hmm := List.mem_of_getElem? hm
  have hmi : ms[i] = m := (List.getElem?_eq_some_iff.1 hm).2
  have hg : w.grownBy (w.setCell ⟨m.g, j, none⟩ (.int .i64 x)) (some m.g) := ⟨rfl, rfl, rfl, by simp, fun k _ hne => Below.heap_setCell w _ _ k (fun e => hne (by rw [e]))⟩
  have hgs : (ms.set i { m with xs := m.xs.set j x }).map MRow.g = ms.map MRow.g := by
    rw [List.map_set]
    apply List.ext_getElem? 
    intro k
    rw [List.getElem?_set]
    split
    · rename_i hk
      subst hk
      split
      · simp [hmi, List.getElem?_eq_getElem hi]
      · rename_i h9
        simp at h9
        omega
    · rfl
  refine ⟨?_, fun m' hm' => ?_, by rw [hgs]; exact h.nd⟩
  · have e1 : (ms.set i { m with xs := m.xs.set j x }).map mrV = ms.map mrV := by
      rw [List.map_set]
      apply List.ext_getElem?
      intro k
      rw [List.getElem?_set]
      split
      · rename_i hk
        subst hk
        split
        · simp [mrV, hmi, List.getElem?_eq_getElem hi]
        · rename_i h9
          simp at h9
          omega
      · rfl
    rw [e1, List.length_set]
    exact h.own.kept hg (.inr (h.ne hmm))
  · obtain ⟨k, hk⟩ := List.mem_iff_getElem?.1 hm'
    rw [List.getElem?_set] at hk
    split at hk
    · rename_i hik
      cases hk
      exact (h.row m hmm).set j x
    · rename_i hik
      have hmk := List.mem_of_getElem? hk
      refine (h.row m' hmk).kept (Below.heap_setCell w _ _ m'.g ?_)
      intro e
      have hkl := (List.getElem?_eq_some_iff.1 hk).1
      have e1 : (ms.map MRow.g)[k]? = some m.g := by
        rw [List.getElem?_map, hk]
        exact congrArg some e
      have e2 : (ms.map MRow.g)[i]? = some m.g := by
        rw [List.getElem?_map, hm]
        rfl
      have := (List.getElem?_inj (i := k) (j := i) (by simpa using hkl) h.nd).1 (e1.trans e2.symm)
      exact hik this.symm
theorem mTab_set {ms : List MRow} {i j : Nat} {m : MRow} (hm : ms[i]? = some m) (x : Int) : mTab (ms.set i { m with xs := m.xs.set j x }) = st (mTab ms) i j x := by
  unfold mTab st
  rw [List.map_set, List.getD_eq_getElem?_getD, List.getElem?_map, hm]
  rfl
theorem mTab_gt {ms : List MRow} {i j : Nat} {m : MRow} {n : Nat} (hm : ms[i]? = some m) (hq : Sq n (mTab ms)) (hi : i < n) (hj : j < n) : m.xs[j]? = some (gt (mTab ms) i j) := by
  have h1 := hq.row hi
  have e1 : (mTab ms).getD i [] = m.xs := by simp [mTab, List.getD_eq_getElem?_getD, hm]
  rw [e1] at h1
  unfold gt
  rw [e1, List.getD_eq_getElem?_getD, List.getElem?_eq_getElem (by omega)]
  rfl
/-- It is read as a table. -/
theorem Mat.reads {B : Nat} {w : World} {v : Value} {ms : List MRow} (h : Mat B w v ms) : ∃ a c, v = .slice a ms.length c ∧ SlT w a ms.length c (ms.map fun m => ⟨some ⟨m.g, 0, none⟩, m.xs.length, m.c, m.xs⟩) := by
  have hrows : ∀ r ∈ ms.map (fun m => (⟨some ⟨m.g, 0, none⟩, m.xs.length, m.c, m.xs⟩ : TRow)), SlI .i64 w r.a r.n r.c r.xs := by
    intro r hr
    obtain ⟨m, hm, rfl⟩ := List.mem_map.1 hr
    have hm' := h.row m hm
    refine ⟨rfl, hm'.le, by simpa [maxLen] using hm'.max, .inr ⟨m.g, 0, rfl, fun i hi => ?_⟩⟩
    have := (hm'.cell (List.getElem?_eq_getElem hi)).1
    rw [Nat.zero_add, this, List.getD_eq_getElem?_getD, List.getElem?_eq_getElem hi]
    rfl
  rcases h.own.2 with ⟨rfl, h0⟩ | ⟨g, cap, cur, rfl, _, hg, h1, h2, h3, h4⟩
  · obtain rfl := List.eq_nil_of_length_eq_zero h0
    exact ⟨none, 0, rfl, SlR.nil _ _ _, by simp⟩
  · refine ⟨_, _, rfl, ⟨by simp, h1, by simpa [maxLen] using h2, .inr ⟨g, 0, rfl, (Array.getElem?_eq_some_iff.1 hg).1, fun i x hx j u hu => ?_⟩⟩, hrows⟩
    rw [List.getElem?_map] at hx
    cases hm : ms[i]? with
    | none => rw [hm] at hx; cases hx
    | some m =>
      rw [hm] at hx
      simp at hx
      subst hx
      have hj : j = 0 := by have := (List.getElem?_eq_some_iff.1 hu).1; simp [trC] at this; exact this
      subst hj
      simp [trC] at hu
      have := h.own.cells (g := g) rfl i (mrV m) (by simp [hm])
      rw [Addr.add_lit, Nat.zero_add] at this
      rw [Nat.zero_add, Nat.mul_one, Nat.add_zero, this, ← hu]
      rfl

end Go.Proofs.Ytilhmlapbifbbaa
