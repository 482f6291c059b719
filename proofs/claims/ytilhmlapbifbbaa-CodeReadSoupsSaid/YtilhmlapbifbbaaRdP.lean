/- Plain: how numbers, triangles, boxes, hops are read. -/
import Derived.Test.YtilhmlapbifbbaaSoN
namespace Go.Proofs.Ytilhmlapbifbbaa
open Go.RowKit

/-- How far one has read, and whether something was wrong. -/
abbrev RS := Nat × Bool
def rdNum (xs : List Int) (st : RS) : Int × RS :=
  if st.2 = true then (0, st)
  else if (rdN (xs.drop st.1)).2.2 ≠ 0 ∨ 4398046511104 < (rdN (xs.drop st.1)).1 then (0, (st.1, true))
  else ((rdN (xs.drop st.1)).1, (st.1 + (rdN (xs.drop st.1)).2.1.toNat, false))
def zag (n : Int) : Int := if n % 2 = 1 then -((n + 1) / 2) else n / 2
def rdSig (xs : List Int) (st : RS) : Int × RS := (zag (rdNum xs st).1, (rdNum xs st).2)
def rdUp (xs : List Int) (m : Int) (st : RS) : Int × RS := if (rdNum xs st).2.2 = true ∨ m < (rdNum xs st).1 then (0, ((rdNum xs st).2.1, true)) else rdNum xs st
def rdVtx (xs : List Int) (st : RS) : Vtx × RS := (⟨(rdNum xs st).1, (rdSig xs (rdNum xs st).2).1, (rdNum xs (rdSig xs (rdNum xs st).2).2).1⟩, (rdNum xs (rdSig xs (rdNum xs st).2).2).2)
def rdTri (xs : List Int) (st : RS) : Tri3 × RS :=
  let i := rdNum xs st
  let a := rdVtx xs i.2
  let b := rdVtx xs a.2
  let c := rdVtx xs b.2
  (⟨i.1, a.1, b.1, c.1⟩, c.2)
def rdBx (xs : List Int) (st : RS) : Bx × RS :=
  let a := rdNum xs st
  let b := rdNum xs a.2
  let c := rdNum xs b.2
  let d := rdNum xs c.2
  let e := rdNum xs d.2
  let f := rdSig xs e.2
  let g := rdSig xs f.2
  let h := rdNum xs g.2
  (⟨a.1, b.1, c.1, d.1, e.1, f.1, g.1, h.1⟩, h.2)
def rdSpt (xs : List Int) (st : RS) : Spt × RS :=
  let a := rdNum xs st
  let b := rdNum xs a.2
  let c := rdSig xs b.2
  (⟨a.1, b.1, c.1⟩, c.2)
def rdHp (xs : List Int) (st : RS) : Hp × RS :=
  let i := rdNum xs st
  let a := rdSpt xs i.2
  let b := rdSpt xs a.2
  let c := rdUp xs 1 b.2
  let d := rdNum xs c.2
  let e := rdNum xs d.2
  (⟨i.1, a.1, b.1, decide (c.1 = 1), d.1, e.1⟩, e.2)
def rdCfg (xs : List Int) (st : RS) : Cfg × RS :=
  let a := rdNum xs st
  let b := rdNum xs a.2
  let c := rdNum xs b.2
  let d := rdNum xs c.2
  let e := rdNum xs d.2
  let f := rdNum xs e.2
  let g := rdNum xs f.2
  (⟨a.1, b.1, c.1, d.1, e.1, f.1, g.1⟩, g.2)
/-- n things, as long as nothing is wrong. -/
def rdRows {α : Type} (one : RS → α × RS) : Nat → RS → List α × RS
  | 0, st => ([], st)
  | n + 1, st => if st.2 = true then ([], st) else ((one st).1 :: (rdRows one n (one st).2).1, (rdRows one n (one st).2).2)
def rdList {α : Type} (xs : List Int) (m : Int) (one : RS → α × RS) (st : RS) : List α × RS := rdRows one (rdUp xs m st).1.toNat (rdUp xs m st).2
def cfg0 : Cfg := ⟨0, 0, 0, 0, 0, 0, 0⟩
def sou0 : Sou := ⟨[], [], []⟩
/-- A config and a soup; how many bytes were used; what was wrong. -/
def rdSoup (xs : List Int) : Cfg × Sou × Int × Int :=
  if 131072 < xs.length then (cfg0, sou0, 0, 3)
  else
    let c := rdCfg xs (0, false)
    let t := rdList xs 200 (rdTri xs) c.2
    let b := rdList xs 16 (rdBx xs) t.2
    let h := rdList xs 16 (rdHp xs) b.2
    if h.2.2 = true ∨ soupE c.1 ⟨t.1, b.1, h.1⟩ ≠ 0 then (cfg0, sou0, 0, 200) else (c.1, ⟨t.1, b.1, h.1⟩, (h.2.1 : Int), 0)

theorem rdAt_used (xs : List Int) : ∀ (f i : Nat) (acc : Int), 0 ≤ (rdAt xs f i acc).2.1 ∧ (rdAt xs f i acc).2.1 ≤ xs.length := by
  intro f
  induction f with
  | zero => intro i acc; simp [rdAt]
  | succ f ih =>
    intro i acc
    rw [rdAt]
    split
    · split
      · split
        · simp
        · simp; omega
      · exact ih _ _
    · simp
theorem rdAt_nonneg (xs : List Int) (hb : ∀ x ∈ xs, 0 ≤ x ∧ x ≤ 255) : ∀ (f i : Nat) (acc : Int), 0 ≤ acc → 0 ≤ (rdAt xs f i acc).1 := by
  intro f
  induction f with
  | zero => intro i acc _; simp [rdAt]
  | succ f ih =>
    intro i acc ha
    have h128 : (0 : Int) ≤ xs.getD i 0 % 128 * 128 ^ i := Int.mul_nonneg (Int.emod_nonneg _ (by decide)) (Int.pow_nonneg (by decide))
    rw [rdAt]
    split
    · split
      · split
        · simp
        · simp only; omega
      · exact ih _ _ (by omega)
    · simp
theorem rdNum_at {xs : List Int} {st : RS} (h : st.1 ≤ xs.length) : (rdNum xs st).2.1 ≤ xs.length := by
  unfold rdNum
  split
  · exact h
  · split
    · exact h
    · have := (rdAt_used (xs.drop st.1) 9 0 0)
      simp only [List.length_drop] at this
      have e : rdN (xs.drop st.1) = rdAt (xs.drop st.1) 9 0 0 := rfl
      rw [e]
      simp only
      omega
theorem rdNum_range {xs : List Int} {st : RS} (hb : ∀ x ∈ xs, 0 ≤ x ∧ x ≤ 255) : 0 ≤ (rdNum xs st).1 ∧ (rdNum xs st).1 ≤ 4398046511104 := by
  unfold rdNum
  split
  · simp
  · split
    · simp
    · rename_i h
      have := rdAt_nonneg (xs.drop st.1) (fun x hx => hb x (List.mem_of_mem_drop hx)) 9 0 0 (by decide)
      have e : rdN (xs.drop st.1) = rdAt (xs.drop st.1) 9 0 0 := rfl
      rw [e] at h ⊢
      simp only
      omega
theorem zag_bits (n : Int) (h0 : 0 ≤ n) (h1 : n ≤ 4398046511104) : bits .xor .i64 (n / 2) (-(n % 2)) = zag n := by
  unfold zag
  by_cases h : n % 2 = 1
  · rw [if_pos h, h, i64_xor_m1 _ (by omega) (by omega)]
    omega
  · have h2 : n % 2 = 0 := by omega
    rw [if_neg h, h2, show (-0 : Int) = 0 from rfl, i64_xor_0 _ (by omega) (by omega)]

end Go.Proofs.Ytilhmlapbifbbaa
