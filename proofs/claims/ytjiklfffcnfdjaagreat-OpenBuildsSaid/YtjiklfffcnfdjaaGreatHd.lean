/- Plain: a box of columns. -/
import Derived.Test.YtjiklfffcnfdjaaGreatGe
import Derived.Test.YtjiklfffcnfdjaaGreatGp
namespace Go.Proofs.YtjiklfffcnfdjaaGreat

def inBox (x z w d : Int) : Bool := decide (-64 ≤ x) && decide (-64 ≤ z) && decide (x ≤ 64) && decide (z ≤ 64) && decide (0 ≤ w) && decide (0 ≤ d) && decide (w ≤ 64) && decide (d ≤ 64)
theorem inBox_iff {x z w d : Int} : inBox x z w d = true ↔ -64 ≤ x ∧ -64 ≤ z ∧ x ≤ 64 ∧ z ≤ 64 ∧ 0 ≤ w ∧ 0 ≤ d ∧ w ≤ 64 ∧ d ≤ 64 := by
  unfold inBox
  simp only [Bool.and_eq_true, decide_eq_true_eq, and_assoc]
/-- The i-th column of a box so wide. -/
def colOf (cf : Cfg) (xs : List Tr) (x z : Int) (w i : Nat) : List Spn × Int := colIn cf xs (x + ((i % w : Nat) : Int)) (z + ((i / w : Nat) : Int))
def colsTo (cf : Cfg) (xs : List Tr) (x z : Int) (w k : Nat) : List (List Spn) := (List.range k).map fun i => (colOf cf xs x z w i).1
/-- The columns of a box up to the first error. -/
def boxL (cf : Cfg) (xs : List Tr) (x z : Int) (w d : Nat) : List (List Spn) × Int :=
  match (List.range (w * d)).find? fun i => decide ((colOf cf xs x z w i).2 ≠ 0) with
  | some i => ([], (colOf cf xs x z w i).2)
  | none => (colsTo cf xs x z w (w * d), 0)
/-- What Box tells. -/
def boxR (cf : Cfg) (xs : List Tr) (x z w d : Int) : List (List Spn) × Int :=
  if colMay cf xs ≠ 0 then ([], colMay cf xs) else if inBox x z w d then boxL cf xs x z w.toNat d.toNat else ([], 2)
theorem colsTo_succ (cf : Cfg) (xs : List Tr) (x z : Int) (w k : Nat) : colsTo cf xs x z w (k + 1) = colsTo cf xs x z w k ++ [(colOf cf xs x z w k).1] := by
  unfold colsTo
  rw [List.range_succ, List.map_append]
  rfl
theorem colsTo_len (cf : Cfg) (xs : List Tr) (x z : Int) (w k : Nat) : (colsTo cf xs x z w k).length = k := by simp [colsTo]
/-- The first error. -/
theorem boxL_err {cf : Cfg} {xs : List Tr} {x z : Int} {w d k : Nat} (hk : k < w * d) (h : ∀ j, j < k → (colOf cf xs x z w j).2 = 0) (he : (colOf cf xs x z w k).2 ≠ 0) : boxL cf xs x z w d = ([], (colOf cf xs x z w k).2) := by
  have hf : (List.range (w * d)).find? (fun i => decide ((colOf cf xs x z w i).2 ≠ 0)) = some k := by
    rw [List.find?_range_eq_some]
    refine ⟨by simpa using he, by simpa using hk, fun j hj => ?_⟩
    simpa using h j hj
  unfold boxL
  rw [hf]
theorem boxL_ok {cf : Cfg} {xs : List Tr} {x z : Int} {w d : Nat} (h : ∀ j, j < w * d → (colOf cf xs x z w j).2 = 0) : boxL cf xs x z w d = (colsTo cf xs x z w (w * d), 0) := by
  have hf : (List.range (w * d)).find? (fun i => decide ((colOf cf xs x z w i).2 ≠ 0)) = none := by
    rw [List.find?_eq_none]
    intro j hj
    simpa using h j (List.mem_range.1 hj)
  unfold boxL
  rw [hf]
theorem boxL_zero {cf : Cfg} {xs : List Tr} {x z : Int} {w d : Nat} (h : (boxL cf xs x z w d).2 = 0) : (∀ j, j < w * d → (colOf cf xs x z w j).2 = 0) ∧ boxL cf xs x z w d = (colsTo cf xs x z w (w * d), 0) := by
  have key : ∀ j, j < w * d → (colOf cf xs x z w j).2 = 0 := by
    unfold boxL at h
    split at h
    · rename_i i hi
      have := List.find?_some hi
      simp at this
      exact absurd h this
    · rename_i hn
      rw [List.find?_eq_none] at hn
      intro j hj
      have := hn j (List.mem_range.2 hj)
      simpa using this
  exact ⟨key, boxL_ok key⟩
theorem colOf_at {cf : Cfg} {xs : List Tr} {x z : Int} {w k i : Nat} (hi : i < w) : colOf cf xs x z w (k * w + i) = colIn cf xs (x + (i : Int)) (z + (k : Int)) := by
  unfold colOf
  have e1 : (k * w + i) % w = i := by rw [Nat.mul_comm, Nat.mul_add_mod, Nat.mod_eq_of_lt hi]
  have e2 : (k * w + i) / w = k := by rw [Nat.mul_comm, Nat.mul_add_div (by omega), Nat.div_eq_of_lt hi, Nat.add_zero]
  rw [e1, e2]
end Go.Proofs.YtjiklfffcnfdjaaGreat

namespace Go.Proofs.YtjiklfffcnfdjaaGreat
open Go.RowKit

structure Hd where
  a : Option Addr
  n : Nat
  c : Nat
def hdC (h : Hd) : List Value := [.slice h.a h.n h.c]
theorem hdC_len (h : Hd) : (hdC h).length = 1 := rfl
theorem hdC_one (h : Hd) : ∀ u ∈ hdC h, u.oneCell' = true := by
  intro u hu
  simp [hdC] at hu
  subst hu
  rfl
section
variable {α : Type} {f : α → List Value} {sz : Nat} {E : TypeId} {B : Nat} {w : World} {v : Value}
/-- The heads hs read as the rows; none lies in the block g, nor below B. -/
def RowsAt (f : α → List Value) (sz : Nat) (B : Nat) (w : World) (g : Option Nat) (hs : List Hd) (rows : List (List α)) : Prop :=
  hs.length = rows.length ∧ ∀ (i : Nat) (h : Hd) (r : List α), hs[i]? = some h → rows[i]? = some r → SlR f sz w h.a h.n h.c r ∧ ∀ ad, h.a = some ad → B ≤ ad.block ∧ ad.block < w.heap.size ∧ g ≠ some ad.block
/-- A row of rows of one's own. -/
def OwnRR (f : α → List Value) (sz : Nat) (E : TypeId) (B : Nat) (w : World) (v : Value) (rows : List (List α)) : Prop :=
  ∃ hs : List Hd, OwnR hdC 1 E B w v hs.length hs ∧ RowsAt f sz B w v.ownBlock hs rows
theorem RowsAt.below {g : Option Nat} {hs : List Hd} {rows : List (List α)} {w' : World} (h : RowsAt f sz B w g hs rows) {m : Nat} (hb : Below m w w') (hm : w.heap.size ≤ m) : RowsAt f sz B w' g hs rows :=
  ⟨h.1, fun i x r hx hr => ⟨(h.2 i x r hx hr).1.below hb hm, fun ad had => ⟨((h.2 i x r hx hr).2 ad had).1, Nat.lt_of_lt_of_le ((h.2 i x r hx hr).2 ad had).2.1 hb.size, ((h.2 i x r hx hr).2 ad had).2.2⟩⟩⟩
theorem OwnRR.nil (f : α → List Value) (sz : Nat) (E : TypeId) (B : Nat) (w : World) : OwnRR f sz E B w (.slice none 0 0) [] :=
  ⟨[], OwnR.nil _ _ _ _ _, rfl, fun i h r hh => by simp at hh⟩
theorem OwnRR.below {rows : List (List α)} {w' : World} (h : OwnRR f sz E B w v rows) {m : Nat} (hb : Below m w w') (hm : w.heap.size ≤ m) : OwnRR f sz E B w' v rows := by
  obtain ⟨hs, h1, h2⟩ := h
  exact ⟨hs, h1.below hb hm, h2.below hb hm⟩
theorem OwnRR.mono {rows : List (List α)} {B' : Nat} (h : OwnRR f sz E B w v rows) (hB : B' ≤ B) : OwnRR f sz E B' w v rows := by
  obtain ⟨hs, h1, h2⟩ := h
  exact ⟨hs, h1.mono hB, h2.1, fun i x r hx hr => ⟨(h2.2 i x r hx hr).1, fun ad had => ⟨Nat.le_trans hB ((h2.2 i x r hx hr).2 ad had).1, ((h2.2 i x r hx hr).2 ad had).2⟩⟩⟩
/-- What one owns lies in a block that is there. -/
theorem own_addr {a : Option Addr} {n c k : Nat} {xs : List α} {e : TypeId} (h : OwnR f sz e B w (.slice a n c) k xs) : ∀ ad, a = some ad → B ≤ ad.block ∧ ad.block < w.heap.size := by
  intro ad had
  subst had
  exact h.lt ad.block rfl
/-- A row behind them. -/
theorem OwnRR.app {hs : List Hd} {rows : List (List α)} {h : Hd} {r : List α} {w' : World} {v' : Value}
    (h2 : RowsAt f sz B w v.ownBlock hs rows) (hr : SlR f sz w h.a h.n h.c r) (ha : ∀ ad, h.a = some ad → B ≤ ad.block ∧ ad.block < w.heap.size ∧ v.ownBlock ≠ some ad.block)
    (ho : OwnR hdC 1 E B w' v' (hs ++ [h]).length (hs ++ [h])) (hg : Appd w w' v v') : OwnRR f sz E B w' v' (rows ++ [r]) := by
  have key : ∀ (x : Hd) (q : List α), SlR f sz w x.a x.n x.c q → (∀ ad, x.a = some ad → B ≤ ad.block ∧ ad.block < w.heap.size ∧ v.ownBlock ≠ some ad.block) → SlR f sz w' x.a x.n x.c q ∧ ∀ ad, x.a = some ad → B ≤ ad.block ∧ ad.block < w'.heap.size ∧ v'.ownBlock ≠ some ad.block := by
    intro x q hq hx
    refine ⟨hq.grown hg.grown (fun ad had => (hx ad had).2.2), fun ad had => ⟨(hx ad had).1, Nat.lt_of_lt_of_le (hx ad had).2.1 hg.grown.size, ?_⟩⟩
    rcases hg.own with e | e
    · rw [e]; exact (hx ad had).2.2
    · intro e2
      have := e _ e2
      have := (hx ad had).2.1
      omega
  refine ⟨hs ++ [h], ho, by simp [h2.1], fun i x q hx hq => ?_⟩
  by_cases hi : i < hs.length
  · rw [List.getElem?_append_left hi] at hx
    rw [List.getElem?_append_left (by rw [← h2.1]; exact hi)] at hq
    exact key x q (h2.2 i x q hx hq).1 (h2.2 i x q hx hq).2
  · have e : i = hs.length := by
      have := (List.getElem?_eq_some_iff.1 hx).1
      simp at this
      omega
    subst e
    rw [List.getElem?_append_right (Nat.le_refl _)] at hx
    rw [List.getElem?_append_right (by rw [h2.1]; exact Nat.le_refl _), h2.1, Nat.sub_self] at hq
    simp at hx hq
    subst hx hq
    exact key h r hr ha
/-- A block below B turns. -/
theorem OwnRR.grown {rows : List (List α)} {w' : World} {G : Nat} (h : OwnRR f sz E B w v rows) (hg : w.grownBy w' (some G)) (hG : G < B) : OwnRR f sz E B w' v rows := by
  obtain ⟨hs, h1, h2⟩ := h
  refine ⟨hs, h1.kept hg (.inr fun e => ?_), h2.1, fun i x r hx hr => ⟨(h2.2 i x r hx hr).1.grown hg (fun ad had e => ?_), fun ad had => ⟨((h2.2 i x r hx hr).2 ad had).1, Nat.lt_of_lt_of_le ((h2.2 i x r hx hr).2 ad had).2.1 hg.size, ((h2.2 i x r hx hr).2 ad had).2.2⟩⟩⟩
  · have := (h1.lt G e).1
    omega
  · have := ((h2.2 i x r hx hr).2 ad had).1
    cases e
    omega
/-- What is read of it. -/
structure SlRR (f : α → List Value) (sz : Nat) (w : World) (a : Option Addr) (n c : Nat) (hs : List Hd) (rows : List (List α)) : Prop where
  out : SlR hdC 1 w a n c hs
  len : hs.length = rows.length
  row : ∀ (i : Nat) (h : Hd) (r : List α), hs[i]? = some h → rows[i]? = some r → SlR f sz w h.a h.n h.c r
theorem SlRR.below {a : Option Addr} {n c : Nat} {hs : List Hd} {rows : List (List α)} {w' : World} (h : SlRR f sz w a n c hs rows) {m : Nat} (hb : Below m w w') (hm : w.heap.size ≤ m) : SlRR f sz w' a n c hs rows :=
  ⟨h.out.below hb hm, h.len, fun i x r hx hr => (h.row i x r hx hr).below hb hm⟩
theorem OwnRR.reads {rows : List (List α)} (h : OwnRR f sz E B w v rows) : ∃ a c hs, v = .slice a rows.length c ∧ SlRR f sz w a rows.length c hs rows := by
  obtain ⟨hs, h1, h2⟩ := h
  obtain ⟨a, c, rfl, r1⟩ := OwnR.reads hdC_len h1
  rw [h2.1] at r1 ⊢
  exact ⟨a, c, hs, rfl, r1, h2.1, fun i x r hx hr => (h2.2 i x r hx hr).1⟩
/-- The i-th row. -/
theorem SlRR.at {b off n c : Nat} {hs : List Hd} {rows : List (List α)} (h : SlRR f sz w (some ⟨b, off, none⟩) n c hs rows) {i : Nat} {r : List α} (hr : rows[i]? = some r) :
    ∃ x : Hd, w.cell? ⟨b, off + i, none⟩ = some (.slice x.a x.n x.c) ∧ SlR f sz w x.a x.n x.c r := by
  have hi := (List.getElem?_eq_some_iff.1 hr).1
  obtain ⟨y, hx⟩ : ∃ y, hs[i]? = some y := ⟨_, List.getElem?_eq_getElem (by rw [h.len]; exact hi)⟩
  refine ⟨y, ?_, h.row i _ r hx hr⟩
  have hl := h.out.len
  obtain ⟨b', off', he, _, hc⟩ := h.out.at0 (by rw [← hl, h.len]; omega)
  cases he
  have := hc i _ hx 0 _ rfl
  rw [Nat.mul_one, Nat.add_zero] at this
  exact this
end
section
variable {w : World} {b : Nat} {t : TypeId}
theorem box5_set {u0 u1 u2 u3 u4 : Value} (h : w.heap[b]? = some (.cells #[u0, u1, u2, u3, u4] t (0, 0))) (v0 v1 v2 v3 v4 : Value) : (((((w.setCell ⟨b, 0, none⟩ v0).setCell ⟨b, 1, none⟩ v1).setCell ⟨b, 2, none⟩ v2).setCell ⟨b, 3, none⟩ v3).setCell ⟨b, 4, none⟩ v4).heap[b]? = some (.cells #[v0, v1, v2, v3, v4] t (0, 0)) :=
  heap_setCell_same _ b 4 _ _ _ (heap_setCell_same _ b 3 _ _ _ (heap_setCell_same _ b 2 _ _ _ (heap_setCell_same _ b 1 _ _ _ (heap_setCell_same _ b 0 _ _ _ h))))
theorem box5_grown (v0 v1 v2 v3 v4 : Value) : w.grownBy (((((w.setCell ⟨b, 0, none⟩ v0).setCell ⟨b, 1, none⟩ v1).setCell ⟨b, 2, none⟩ v2).setCell ⟨b, 3, none⟩ v3).setCell ⟨b, 4, none⟩ v4) (some b) :=
  ((((grown_set w b 0 v0).trans (grown_set _ b 1 v1)).trans (grown_set _ b 2 v2)).trans (grown_set _ b 3 v3)).trans (grown_set _ b 4 v4)
theorem box5_last {u0 u1 u2 u3 u4 : Value} (h : w.heap[b]? = some (.cells #[u0, u1, u2, u3, u4] t (0, 0))) (v4 : Value) : (w.setCell ⟨b, 4, none⟩ v4).heap[b]? = some (.cells #[u0, u1, u2, u3, v4] t (0, 0)) :=
  heap_setCell_same _ b 4 _ _ _ h
end
end Go.Proofs.YtjiklfffcnfdjaaGreat

namespace Go.Proofs.YtjiklfffcnfdjaaGreat

theorem boxR_zero {cf : Cfg} {xs : List Tr} {x z w d : Int} (h : (boxR cf xs x z w d).2 = 0) : colMay cf xs = 0 ∧ inBox x z w d = true ∧ (∀ j, j < w.toNat * d.toNat → (colOf cf xs x z w.toNat j).2 = 0) ∧ boxR cf xs x z w d = (colsTo cf xs x z w.toNat (w.toNat * d.toNat), 0) := by
  unfold boxR at h ⊢
  by_cases h0 : colMay cf xs = 0
  · rw [if_neg (by simpa using h0)] at h ⊢
    cases hin : inBox x z w d with
    | true =>
      rw [hin, if_pos rfl] at h
      obtain ⟨h1, h2⟩ := boxL_zero h
      rw [if_pos rfl]
      exact ⟨h0, rfl, h1, h2⟩
    | false => rw [hin] at h; cases h
  · rw [if_pos h0] at h
    exact absurd h h0
theorem boxR_ok {cf : Cfg} {xs : List Tr} {x z : Int} {w d : Nat} (h0 : colMay cf xs = 0) (hin : inBox x z w d = true) (h : ∀ j, j < w * d → (colOf cf xs x z w j).2 = 0) : boxR cf xs x z w d = (colsTo cf xs x z w (w * d), 0) := by
  unfold boxR
  rw [if_neg (by simpa using h0), hin, if_pos rfl, Int.toNat_natCast, Int.toNat_natCast, boxL_ok h]
theorem part_at {cf : Cfg} {xs : List Tr} {x z : Int} {w w' l t k i : Nat} (hi : i < w') (hw : l + w' ≤ w) : colOf cf xs (x + (l : Int)) (z + (t : Int)) w' (k * w' + i) = colOf cf xs x z w ((k + t) * w + (i + l)) := by
  rw [colOf_at hi, colOf_at (show i + l < w by omega)]
  congr 1
  · push_cast; omega
  · push_cast; omega
theorem part_ok {cf : Cfg} {xs : List Tr} {x z : Int} {w d w' d' l t : Nat} (hw : l + w' ≤ w) (hd : t + d' ≤ d) (h : ∀ j, j < w * d → (colOf cf xs x z w j).2 = 0) : ∀ j, j < w' * d' → (colOf cf xs (x + (l : Int)) (z + (t : Int)) w' j).2 = 0 := by
  intro j hj
  have hw0 : 0 < w' := by
    rcases Nat.eq_zero_or_pos w' with h0 | h0
    · subst h0; simp at hj
    · exact h0
  have e : j = j / w' * w' + j % w' := by rw [Nat.mul_comm]; exact (Nat.div_add_mod j w').symm
  have hi : j % w' < w' := Nat.mod_lt _ hw0
  have hk : j / w' < d' := Nat.div_lt_of_lt_mul hj
  rw [e, part_at hi hw]
  refine h _ ?_
  have h1 : (j / w' + t + 1) * w ≤ d * w := Nat.mul_le_mul_right _ (by omega)
  rw [Nat.succ_mul] at h1
  rw [Nat.mul_comm w d]
  omega
theorem colsTo_at {cf : Cfg} {xs : List Tr} {x z : Int} {w n i : Nat} (h : i < n) : (colsTo cf xs x z w n)[i]? = some (colOf cf xs x z w i).1 := by
  unfold colsTo
  simp [h]
end Go.Proofs.YtjiklfffcnfdjaaGreat
