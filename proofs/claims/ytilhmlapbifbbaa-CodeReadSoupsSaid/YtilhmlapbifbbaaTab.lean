/- Views of memory: tables of integers; what is asked of them. -/
import Derived.Test.YtilhmlapbifbbaaIter
import Derived.Test.YtilhmlapbifbbaaTriP
import Derived.Test.YtilhmlapbifbbaaInts
namespace Go.Proofs.Ytilhmlapbifbbaa
open Go.RowKit Go.Sort

/-- A row of a table, and where it lies. -/
structure TRow where
  a : Option Addr
  n : Nat
  c : Nat
  xs : List Int
def trC (r : TRow) : List Value := [.slice r.a r.n r.c]
def tabOf (rs : List TRow) : List (List Int) := rs.map TRow.xs
/-- The slice value '.slice a n c' reads as the table of the rows rs. -/
structure SlT (w : World) (a : Option Addr) (n c : Nat) (rs : List TRow) : Prop where
  sl : SlR trC 1 w a n c rs
  rows : ∀ r ∈ rs, SlI .i64 w r.a r.n r.c r.xs

section
variable {w : World} {a : Option Addr} {n c : Nat} {rs : List TRow}
theorem SlT.below {w' : World} (h : SlT w a n c rs) {B : Nat} (hb : Below B w w') (hB : w.heap.size ≤ B) : SlT w' a n c rs :=
  ⟨h.sl.below hb hB, fun r hr => (h.rows r hr).below hb hB⟩
theorem SlT.alloc (h : SlT w a n c rs) (o : Obj) : SlT (w.alloc o) a n c rs := h.below ((Below.refl w.heap.size w).alloc (Nat.le_refl _) o) (Nat.le_refl _)
theorem SlT.len (h : SlT w a n c rs) : rs.length = n := h.sl.len
theorem SlT.tlen (h : SlT w a n c rs) : (tabOf rs).length = n := by simp [tabOf, h.sl.len]
theorem SlT.keepEx {w' : World} (h : SlT w a n c rs) {L : Nat} {S : Nat → Prop} (hk : KeepEx L S w w') (ha : ∀ ad, a = some ad → n = 0 ∨ (ad.block < L ∧ ¬ S ad.block)) (hr : ∀ r ∈ rs, ∀ ad, r.a = some ad → r.n = 0 ∨ (ad.block < L ∧ ¬ S ad.block)) : SlT w' a n c rs :=
  ⟨h.sl.keepEx hk ha, fun r hm => (h.rows r hm).keepEx hk (hr r hm)⟩
/-- The k-th row: its cell, and that it is read. -/
theorem SlT.row (h : SlT w a n c rs) {k : Nat} (hk : k < n) : ∃ b off r, a = some ⟨b, off, none⟩ ∧ rs[k]? = some r ∧ w.cell? ⟨b, off + k, none⟩ = some (.slice r.a r.n r.c) ∧ SlI .i64 w r.a r.n r.c r.xs ∧ (tabOf rs).getD k [] = r.xs := by
  obtain ⟨b, off, ha, _, hc⟩ := h.sl.at0 (by omega)
  obtain ⟨r, hr⟩ : ∃ r, rs[k]? = some r := ⟨_, List.getElem?_eq_getElem (by rw [h.len]; exact hk)⟩
  refine ⟨b, off, r, ha, hr, ?_, h.rows r (List.mem_of_getElem? hr), by simp [tabOf, List.getD_eq_getElem?_getD, hr]⟩
  have := hc k r hr 0 _ rfl
  simpa using this
theorem SlT.cells (h : SlT w a n c rs) : n = 0 ∨ ∃ b off, a = some ⟨b, off, none⟩ ∧ ∀ k r, rs[k]? = some r → w.cell? ⟨b, off + k, none⟩ = some (.slice r.a r.n r.c) := by
  rcases Nat.eq_zero_or_pos n with h0 | h0
  · exact .inl h0
  · obtain ⟨b, off, ha, _, hc⟩ := h.sl.at0 h0
    exact .inr ⟨b, off, ha, fun k r hr => by have := hc k r hr 0 _ rfl; simpa using this⟩
end

/-- Too great to be asked? -/
def greatT (t : List (List Int)) : Bool := (t.take 21).any (fun r => decide (40 < r.length)) || decide (20 < t.length)
theorem greatT_yes {t : List (List Int)} {k : Nat} (hk : k < t.length) (h21 : k < 21) (h : 40 < (t.getD k []).length) : greatT t = true := by
  unfold greatT
  rw [Bool.or_eq_true]
  left
  rw [List.any_eq_true]
  refine ⟨t[k], ?_, ?_⟩
  · rw [List.mem_iff_getElem?]
    exact ⟨k, by rw [List.getElem?_take]; simp [h21, hk]⟩
  · rw [List.getD_eq_getElem?_getD, List.getElem?_eq_getElem hk] at h
    simpa using h
theorem greatT_no {t : List (List Int)} {m : Nat} (hm : m = t.length ∨ m = 21) (h : ∀ k, k < m → (t.getD k []).length ≤ 40) : greatT t = decide (20 < t.length) := by
  unfold greatT
  have : (t.take 21).any (fun r => decide (40 < r.length)) = false := by
    rw [List.any_eq_false]
    intro r hr
    obtain ⟨k, hk⟩ := List.mem_iff_getElem?.1 hr
    rw [List.getElem?_take] at hk
    split at hk
    · rename_i h21
      have hkl := (List.getElem?_eq_some_iff.1 hk).1
      have := h k (by omega)
      rw [List.getD_eq_getElem?_getD, hk] at this
      simp at this ⊢
      omega
    · cases hk
  rw [this, Bool.false_or]

set_option maxHeartbeats 400000 in
theorem great_any (a : Option Addr) (n c : Nat) (rs : List TRow) (w : World) (hx : SlT w a n c rs) :
    Calls Try.prog 35 #[.slice a n c] w fun e w' => e = .returned (.bool (greatT (tabOf rs))) ∧ Below w.heap.size w w' := by
  have Hl := Lib.hid hx.tlen
  have hmax := hx.sl.max
  have hle := hx.sl.le
  have Hx := Lib.hid hx; clear hx
  go_enter Try.func35, Try.ntmps35
  go_wp2
  go_loop [3] (fun i => ∃ k : Nat, i = .int .i64 k ∧ k ≤ n ∧ k ≤ 21 ∧ Hid (∀ j, j < k → ((tabOf rs).getD j []).length ≤ 40)) (fun i => n - (intOf i).toNat)
  case atStart => exact ⟨0, rfl, by omega, by omega, fun j hj => by omega⟩
  case round =>
    obtain ⟨k, rfl, hk, hk21, Hs⟩ := hrel
    by_cases hlt : k < n
    · have hltI : (k : Int) < (n : Int) := by omega
      by_cases h20 : k ≤ 20
      · have h20I : (k : Int) ≤ 20 := by omega
        obtain ⟨b, off, r, rfl, hr, hc, hs, ht⟩ := Hx.out.row hlt
        have Hs2 := Lib.hid hs
        have Ht := Lib.hid ht
        have hrl := hs.len
        obtain ⟨ra, rn, rc, rxs⟩ := r
        simp only at hc hrl
        have Hrl := Lib.hid hrl
        clear hs hr ht hrl
        by_cases h40 : 40 < rn
        · have h40I : (40 : Int) < (rn : Int) := by omega
          have Hg : Hid (greatT (tabOf rs) = true) := greatT_yes (k := k) (by rw [Hl.out]; exact hlt) (by omega) (by rw [Ht.out]; simp only; rw [Hrl.out]; exact h40)
          go_wp2
          go_ret
          exact ⟨ret_bool Hg.out.symm, Below.refl _ _⟩
        · have h40I : ¬ (40 : Int) < (rn : Int) := by omega
          go_wp2
          go_round
          case rel =>
            refine ⟨k + 1, by go_num, by omega, by omega, fun j hj => ?_⟩
            by_cases hjk : j = k
            · rw [hjk, Ht.out]; simp only; rw [Hrl.out]; omega
            · exact Hs.out j (by omega)
          case measure => simp [intOf]; omega
      · have h20I : ¬ (k : Int) ≤ 20 := by omega
        have hn20 : (20 : Int) < (n : Int) := by omega
        have Hg : Hid (greatT (tabOf rs) = true) := by
          show _ = _
          rw [greatT_no (m := k) (by omega) Hs.out, Hl.out]
          exact decide_eq_true (by omega)
        go_wp2
        go_ret
        exact ⟨ret_bool Hg.out.symm, Below.refl _ _⟩
    · have hltI : ¬ (k : Int) < (n : Int) := by omega
      have Hg : Hid (greatT (tabOf rs) = decide ((20 : Int) < (n : Int))) := by
        show _ = _
        rw [greatT_no (m := k) (by rw [Hl.out]; omega) Hs.out, Hl.out]
        simp
        omega
      go_wp2
      go_ret
      exact ⟨ret_bool Hg.out.symm, Below.refl _ _⟩

end Go.Proofs.Ytilhmlapbifbbaa
