/- Views of memory: a slice of integers that can be read; what the call itself owns. -/
import Derived.Test.YtmgkkmcihplojaaGreatProg
import Derived.WalkKit
import Derived.WalkSpells
import Derived.WalkLawsBesides
import Derived.BigQuiet
import Derived.Deep.QuietTactic
import Derived.Lib.Hide
import Derived.Lib.QuietBelow
namespace Go.Proofs.YtmgkkmcihplojaaGreat
open Go.RowKit

/-- The slice value '.slice a n c' reads as the integers xs, all of kind k. -/
structure SlI (k : IntKind) (w : World) (a : Option Addr) (n c : Nat) (xs : List Int) : Prop where
  len : xs.length = n
  le : n ≤ c
  max : c ≤ 9223372036854775807
  cell : n = 0 ∨ ∃ b off, a = some ⟨b, off, none⟩ ∧ ∀ i, i < n → w.cell? ⟨b, off + i, none⟩ = some (.int k (xs.getD i 0))

theorem SlI.drewN {k : IntKind} {w : World} {a : Option Addr} {n c : Nat} {xs : List Int} (h : SlI k w a n c xs) (m : Nat) : SlI k (w.drewN m) a n c xs :=
  ⟨h.len, h.le, h.max, h.cell⟩

/-- It reads so in each world in which what lay below B lies as it did, if its block is below B. -/
theorem SlI.below {k : IntKind} {w w' : World} {a : Option Addr} {n c : Nat} {xs : List Int} (h : SlI k w a n c xs) {B : Nat} (hb : Below B w w') (hB : w.heap.size ≤ B) : SlI k w' a n c xs := by
  refine ⟨h.len, h.le, h.max, ?_⟩
  rcases h.cell with h0 | ⟨b, off, ha, hc⟩
  · exact .inl h0
  · refine .inr ⟨b, off, ha, fun i hi => ?_⟩
    have hi' := hc i hi
    have hlt := World.block_lt_of_cell? w _ hi'
    rw [hb.cell (p := ⟨b, off + i, none⟩) (by simp at hlt ⊢; omega)]
    exact hi'

theorem SlI.nil (k : IntKind) (w : World) : SlI k w none 0 0 [] := ⟨rfl, Nat.le_refl _, by omega, .inl rfl⟩

/-- What is owned is read. -/
theorem SlI.of_owns {k : IntKind} {w : World} {B : Nat} {e : TypeId} {v : Value} {n : Nat} {xs : List Int} (h : w.ownsRow B e 1 v n (xs.map (Value.int k))) :
    ∃ a c, v = .slice a n c ∧ SlI k w a n c xs := by
  have hl : xs.length = n := by simpa using h.1
  rcases h.2 with ⟨rfl, rfl⟩ | ⟨g, cap, cur, rfl, _, hg, h1, h2, h3, h4⟩
  · have : xs = [] := by simpa using hl
    subst this
    exact ⟨none, 0, rfl, SlI.nil _ _⟩
  · refine ⟨_, _, rfl, hl, h1, by simpa [maxLen] using h2, ?_⟩
    by_cases h0 : n = 0
    · exact .inl h0
    refine .inr ⟨g, 0, rfl, fun i hi => ?_⟩
    have hcell := h.cells (g := g) rfl i (.int k (xs.getD i 0)) (by simp [List.getElem?_map, List.getElem?_eq_getElem (show i < xs.length by omega)])
    have hadd : (⟨g, 0, none⟩ : Addr).add i = ⟨g, 0 + i, none⟩ := by unfold Addr.add; split <;> simp_all
    rw [hadd] at hcell
    exact hcell

theorem ret_bool {a b : Bool} (h : a = b) : Ending.returned (.bool a) = .returned (.bool b) := by rw [h]
theorem ret_int {k : IntKind} {a b : Int} (h : a = b) : Ending.returned (.int k a) = .returned (.int k b) := by rw [h]
theorem below_drewN {B : Nat} {a w : World} (h : Below B a w) (n : Nat) : Below B a (w.drewN n) := ⟨h.os, h.tape, h.output, h.size, h.block⟩


/-- It reads so behind writes to other blocks. -/
theorem SlI.grown {k : IntKind} {w w' : World} {a : Option Addr} {n c : Nat} {xs : List Int} (h : SlI k w a n c xs) {row : Option Nat} (hg : w.grownBy w' row) (hne : ∀ ad, a = some ad → row ≠ some ad.block) : SlI k w' a n c xs := by
  refine ⟨h.len, h.le, h.max, ?_⟩
  rcases h.cell with h0 | ⟨b, off, ha, hc⟩
  · exact .inl h0
  · exact .inr ⟨b, off, ha, fun i hi => hg.cell (hc i hi) (fun e => hne _ ha e.symm)⟩

/-- Its i-th cell. -/
theorem SlI.at0 {k : IntKind} {w : World} {a : Option Addr} {n c : Nat} {xs : List Int} (h : SlI k w a n c xs) (hn : 0 < n) : ∃ b off, a = some ⟨b, off, none⟩ ∧ ∀ i, i < n → w.cell? ⟨b, off + i, none⟩ = some (.int k (xs.getD i 0)) := by
  rcases h.cell with h0 | h0
  · omega
  · exact h0
theorem SlI.alloc {k : IntKind} {w : World} {a : Option Addr} {n c : Nat} {xs : List Int} (h : SlI k w a n c xs) (o : Obj) : SlI k (w.alloc o) a n c xs :=
  h.below ((Below.refl w.heap.size w).alloc (Nat.le_refl _) o) (Nat.le_refl _)

/-! ### Appending to a row of one's own -/

/-- From w to w' only the row of v, and what is new, has turned; v' lies where v lay, or in a new block. -/
structure Appd (w w' : World) (v v' : Value) : Prop where
  grown : w.grownBy w' v.ownBlock
  own : v'.ownBlock = v.ownBlock ∨ ∀ k, v'.ownBlock = some k → w.heap.size ≤ k

theorem Appd.refl (w : World) (v : Value) : Appd w w v v := ⟨World.grownBy.refl _ _, .inl rfl⟩

theorem Appd.trans {a b c : World} {v v1 v2 : Value} (h : Appd a b v v1) (k : Appd b c v1 v2) : Appd a c v v2 := by
  refine ⟨⟨k.grown.os.trans h.grown.os, k.grown.tape.trans h.grown.tape, k.grown.output.trans h.grown.output, Nat.le_trans h.grown.size k.grown.size, fun i hi hne => ?_⟩, ?_⟩
  · refine (k.grown.block i (Nat.lt_of_lt_of_le hi h.grown.size) ?_).trans (h.grown.block i hi hne)
    rcases h.own with e | e
    · rw [e]; exact hne
    · intro he
      have := e i he.symm
      omega
  · rcases k.own with e | e
    · rcases h.own with e1 | e1
      · exact .inl (e.trans e1)
      · exact .inr (fun j hj => e1 j (e.symm.trans hj))
    · exact .inr (fun j hj => Nat.le_trans h.grown.size (e j hj))

theorem Appd.alloc {a w : World} {v v' : Value} (h : Appd a w v v') (o : Obj) : Appd a (w.alloc o) v v' :=
  h.trans ⟨World.grownBy_alloc w o _, .inl rfl⟩
theorem Appd.drewN {a w : World} {v v' : Value} (h : Appd a w v v') (n : Nat) : Appd a (w.drewN n) v v' :=
  h.trans ⟨⟨rfl, rfl, rfl, Nat.le_refl _, fun _ _ _ => rfl⟩, .inl rfl⟩

theorem Appd.below {w w' : World} {v v' : Value} (h : Appd w w' v v') {B : Nat} (hB : B ≤ w.heap.size) (hv : ∀ k, v.ownBlock = some k → B ≤ k) : Below B w w' :=
  (Below.refl B w).grown h.grown hB hv
theorem Appd.le {w w' : World} {v v' : Value} (h : Appd w w' v v') {B : Nat} (hB : B ≤ w.heap.size) (hv : ∀ k, v.ownBlock = some k → B ≤ k) : ∀ k, v'.ownBlock = some k → B ≤ k := by
  rcases h.own with e | e
  · rw [e]; exact hv
  · exact fun k hk => Nat.le_trans hB (e k hk)

/-- 'append(out, x..)': out is one's own; what is appended lies at ad. -/
theorem wpList_app {P : Program} (w : World) {ops : Array Oper} {rest : List Oper} {o : Oper} {a : Act} {Q : Exit → Act → World → Prop}
    (hgd : o.guard = none) (s x : Operand) (t : TypeId) (hop : o.op = Op.call { callee := Callee.builtin Builtin.append, args := #[s, x], argTypes := #[t, t] })
    (base : Nat) (e : TypeId) (i : TypeInfo) (z : Value) (size bytes : Nat) (ht : P.underlying t = some (.slice e)) (hi : P.info? e = some i) (hz : i.zero = some z)
    (hsize : i.size = size) (hby : i.bytes = bytes) (hzs : z.cells.size = size) (hsz : 0 < size)
    (v : Value) (n : Nat) (xs : List Value) (hs : a.eval s = v) (hown : w.ownsRow base e size v n xs)
    (ad : Addr) (m c : Nat) (news : List Value) (hx : a.eval x = .slice (some ad) m c) (hm : 0 < m) (hl : news.length = m * size) (hnews : ∀ j u, news[j]? = some u → w.cell? (ad.add j) = some u) (h1 : ∀ u ∈ news, u.oneCell' = true)
    (h63 : n + m ≤ maxLen) (hbytes : (n + m) * bytes ≤ 140737488355328) (hbase : base ≤ w.heap.size)
    (hK : ∀ v' w', w'.ownsRow base e size v' (n + m) (xs ++ news) → Appd w w' v v' → wpList P ops Q rest (a.put o.dst v') w') : wpList P ops Q (o :: rest) a w := by
  have lift : ∀ v' w', w'.ownsRow w.heap.size e size v' (n + m) (xs ++ news) → w.grownBy w' none → w'.ownsRow base e size v' (n + m) (xs ++ news) ∧ Appd w w' v v' := by
    intro v' w' ho hg
    refine ⟨⟨ho.1, ?_⟩, ⟨⟨hg.os, hg.tape, hg.output, hg.size, fun k hk _ => hg.block k hk (by simp)⟩, .inr fun k hk => (ho.lt k hk).1⟩⟩
    rcases ho.2 with h | ⟨g, cap, cur, h2, h3, h4⟩
    · exact .inl h
    · exact .inr ⟨g, cap, cur, h2, Nat.le_trans hbase h3, h4⟩
  have hown0 := hown
  rcases hown.2 with ⟨rfl, rfl⟩ | ⟨g, cap, cur, rfl, hbg, hg, hnc, hcm, hcs, htake⟩
  · have hx0 : xs = [] := List.eq_nil_of_length_eq_zero (by simpa using hown.1)
    subst hx0
    refine wpList_append_grows w hgd s x t hop e i z size bytes ht hi hz hsize hby hzs hsz none 0 0 [] hs (fun _ => ⟨rfl, rfl⟩) (by simp) (fun _ h => by cases h) ad m c news hx hl hnews h1 (by omega) h63 hbytes ?_
    intro v' w' ho hg
    obtain ⟨q1, q2⟩ := lift v' w' ho hg
    exact hK v' w' q1 q2
  · by_cases hroom : n + m ≤ cap
    · refine wpList_append_fits w hgd s x t hop base e i size ht hi hsize g n cap xs hs hown0 ad m c news hx hl hnews h1 hroom ?_
      intro w' ho hg'
      exact hK _ w' ho ⟨hg', .inl rfl⟩
    · refine wpList_append_grows w hgd s x t hop e i z size bytes ht hi hz hsize hby hzs hsz (some ⟨g, 0, none⟩) n cap xs hs (fun h => by cases h) hown.1 (fun b hb => by cases hb; exact hown.cells (g := g) rfl) ad m c news hx hl hnews h1 (by omega) h63 hbytes ?_
      intro v' w' ho hg'
      obtain ⟨q1, q2⟩ := lift v' w' ho hg'
      exact hK v' w' q1 q2

/-- The slice value v, of n integers of kind k (type e), is one's own, in a block from B on, and reads as xs. -/
def OwnI (k : IntKind) (e : TypeId) (B : Nat) (w : World) (v : Value) (n : Nat) (xs : List Int) : Prop := w.ownsRow B e 1 v n (xs.map (Value.int k))

section
variable {k : IntKind} {e : TypeId} {B : Nat} {w : World} {v : Value} {n : Nat} {xs : List Int}
theorem OwnI.length (h : OwnI k e B w v n xs) : xs.length = n := by have h1 := h.1; simpa using h1
theorem OwnI.nil (k : IntKind) (e : TypeId) (B : Nat) (w : World) : OwnI k e B w (.slice none 0 0) 0 [] := World.ownsRow_nil _ _ _ _
theorem OwnI.kept {w' : World} {row : Option Nat} (h : OwnI k e B w v n xs) (hg : w.grownBy w' row) (hne : v.ownBlock = none ∨ v.ownBlock ≠ row) : OwnI k e B w' v n xs := World.ownsRow.kept h hg hne
theorem OwnI.drewN (h : OwnI k e B w v n xs) (m : Nat) : OwnI k e B (w.drewN m) v n xs := h
theorem OwnI.alloc (h : OwnI k e B w v n xs) (o : Obj) : OwnI k e B (w.alloc o) v n xs := World.ownsRow.alloc h o
theorem OwnI.lt (h : OwnI k e B w v n xs) : ∀ j, v.ownBlock = some j → B ≤ j ∧ j < w.heap.size := World.ownsRow.lt h
theorem OwnI.le (h : OwnI k e B w v n xs) : ∀ j, v.ownBlock = some j → B ≤ j := fun j hj => (h.lt j hj).1
theorem OwnI.reads (h : OwnI k e B w v n xs) : ∃ a c, v = .slice a n c ∧ SlI k w a n c xs := SlI.of_owns h
/-- What lies in blocks below B2 stays behind whatever leaves those as they were. -/
theorem OwnI.below {w' : World} (h : OwnI k e B w v n xs) {B2 : Nat} (hb : Below B2 w w') (hB : w.heap.size ≤ B2) : OwnI k e B w' v n xs := by
  refine OwnI.kept h (row := none) ⟨hb.os, hb.tape, hb.output, hb.size, fun i hi _ => hb.block i (by omega)⟩ ?_
  cases v.ownBlock <;> simp
end

end Go.Proofs.YtmgkkmcihplojaaGreat

namespace Go.Proofs.YtmgkkmcihplojaaGreat
open Go.RowKit

/-- The slice value '.slice a n c' reads as the list xs: each element x takes the sz cells f x. -/
structure SlR {α : Type} (f : α → List Value) (sz : Nat) (w : World) (a : Option Addr) (n c : Nat) (xs : List α) : Prop where
  len : xs.length = n
  le : n ≤ c
  max : c ≤ 9223372036854775807
  cell : n = 0 ∨ ∃ b off, a = some ⟨b, off, none⟩ ∧ b < w.heap.size ∧ ∀ i x, xs[i]? = some x → ∀ j v, (f x)[j]? = some v → w.cell? ⟨b, off + i * sz + j, none⟩ = some v

section
variable {α : Type} {f : α → List Value} {sz : Nat} {w : World} {a : Option Addr} {n c : Nat} {xs : List α}
theorem SlR.nil (f : α → List Value) (sz : Nat) (w : World) : SlR f sz w none 0 0 [] := ⟨rfl, Nat.le_refl _, by omega, .inl rfl⟩
theorem SlR.drewN (h : SlR f sz w a n c xs) (m : Nat) : SlR f sz (w.drewN m) a n c xs := ⟨h.len, h.le, h.max, h.cell⟩
theorem SlR.grown {w' : World} (h : SlR f sz w a n c xs) {row : Option Nat} (hg : w.grownBy w' row) (hne : ∀ ad, a = some ad → row ≠ some ad.block) : SlR f sz w' a n c xs := by
  refine ⟨h.len, h.le, h.max, ?_⟩
  rcases h.cell with h0 | ⟨b, off, ha, hlt, hc⟩
  · exact .inl h0
  · exact .inr ⟨b, off, ha, Nat.lt_of_lt_of_le hlt hg.size, fun i x hx j v hv => hg.cell (hc i x hx j v hv) (fun e => hne _ ha e.symm)⟩
theorem SlR.below {w' : World} (h : SlR f sz w a n c xs) {B : Nat} (hb : Below B w w') (hB : w.heap.size ≤ B) : SlR f sz w' a n c xs := by
  refine ⟨h.len, h.le, h.max, ?_⟩
  rcases h.cell with h0 | ⟨b, off, ha, hlt, hc⟩
  · exact .inl h0
  · refine .inr ⟨b, off, ha, Nat.lt_of_lt_of_le hlt hb.size, fun i x hx j v hv => ?_⟩
    rw [hb.cell (p := ⟨b, off + i * sz + j, none⟩) (by show b < B; omega)]
    exact hc i x hx j v hv
theorem SlR.alloc (h : SlR f sz w a n c xs) (o : Obj) : SlR f sz (w.alloc o) a n c xs :=
  h.below ((Below.refl w.heap.size w).alloc (Nat.le_refl _) o) (Nat.le_refl _)
theorem SlR.at0 (h : SlR f sz w a n c xs) (hn : 0 < n) : ∃ b off, a = some ⟨b, off, none⟩ ∧ b < w.heap.size ∧ ∀ i x, xs[i]? = some x → ∀ j v, (f x)[j]? = some v → w.cell? ⟨b, off + i * sz + j, none⟩ = some v := by
  rcases h.cell with h0 | h0
  · omega
  · exact h0
end

/-- A span. -/
structure Spn where
  lo : Int
  hi : Int
  walk : Bool
deriving DecidableEq

def spnC (s : Spn) : List Value := [.int .i64 s.lo, .int .i64 s.hi, .bool s.walk]
/-- Slices of spans. -/
abbrev SlSp := SlR spnC 3

theorem SlSp.cells {w : World} {b off : Nat} {xs : List Spn} (h : ∀ i x, xs[i]? = some x → ∀ j v, (spnC x)[j]? = some v → w.cell? ⟨b, off + i * 3 + j, none⟩ = some v) {k : Nat} {x : Spn} (hx : xs[k]? = some x) :
    w.cell? ⟨b, off + k * 3, none⟩ = some (.int .i64 x.lo) ∧ w.cell? ⟨b, off + k * 3 + 1, none⟩ = some (.int .i64 x.hi) ∧ w.cell? ⟨b, off + k * 3 + 2, none⟩ = some (.bool x.walk) :=
  ⟨h k x hx 0 _ rfl, h k x hx 1 _ rfl, h k x hx 2 _ rfl⟩

end Go.Proofs.YtmgkkmcihplojaaGreat
