/- Walks: cells.Each: its maker, its iterator; Less. -/
import Derived.Test.YtjiklfffcnfdjaaGreatGg
import Derived.Test.YtjiklfffcnfdjaaGreatGh
namespace Go.Proofs.YtjiklfffcnfdjaaGreat
open Go.RowKit Go.Shelf Go.Sort
attribute [local go_sem] Oper.semAt_some

/-- What Each has laid in block B: the columns. -/
structure EachC (B : Nat) (a : Option Addr) (n c : Nat) (l : List Cel) (w : World) : Prop where
  sl : w.cell? ⟨B, 0, none⟩ = some (.slice a n c)
  xs : SlCe w a n c l
  lt : B < w.heap.size
theorem EachC.below {B : Nat} {a : Option Addr} {n c : Nat} {l : List Cel} {w w' : World} (h : EachC B a n c l w) (hb : Below w.heap.size w w') : EachC B a n c l w' :=
  ⟨(hb.cell (p := ⟨B, 0, none⟩) h.lt).trans h.sl, h.xs.below hb (Nat.le_refl _), Nat.lt_of_lt_of_le h.lt hb.size⟩
theorem EachC.keep {B : Nat} {a : Option Addr} {n c : Nat} {l : List Cel} {w w' : World} (h : EachC B a n c l w) {L : Nat} {S : Nat → Prop} (hk : KeepEx L S w w') (hL : B < L) (h0 : ¬ S B) (ha : ∀ ad, a = some ad → n = 0 ∨ (ad.block < L ∧ ¬ S ad.block)) : EachC B a n c l w' :=
  ⟨hk.cell hL h0 h.sl, h.xs.keepEx hk ha, Nat.lt_of_lt_of_le h.lt hk.size⟩

/-- The columns and their numbers. -/
def ixs (l : List Cel) (k : Nat) : List (Nat × Cel) := (l.take k).zipIdx.map fun p => (p.2, p.1)
theorem ixs_zero (l : List Cel) : ixs l 0 = [] := rfl
theorem ixs_succ {l : List Cel} {k : Nat} {c : Cel} (h : l[k]? = some c) : ixs l (k + 1) = ixs l k ++ [(k, c)] := by
  have hk : k < l.length := (List.getElem?_eq_some_iff.1 h).1
  have hl : (l.take k).length = k := by rw [List.length_take]; omega
  unfold ixs
  rw [List.take_add_one, h, Option.toList_some, List.zipIdx_append, List.map_append, hl]
  simp
theorem ixs_len (l : List Cel) (k : Nat) : (ixs l k).length ≤ k := by
  unfold ixs
  rw [List.length_map, List.length_zipIdx, List.length_take]
  omega
theorem ixs_prefix (l : List Cel) (k : Nat) : ixs l k <+: ixs l l.length := by
  unfold ixs
  rw [List.take_length]
  refine List.IsPrefix.map _ ?_
  conv => rhs; rw [← List.take_append_drop k l]
  rw [List.zipIdx_append]
  exact List.prefix_append _ _
theorem ixs_snd (l : List Cel) (k : Nat) : (ixs l k).map Prod.snd = l.take k := by
  unfold ixs
  rw [List.map_map]
  have : (Prod.snd ∘ fun p : Cel × Nat => (p.2, p.1)) = Prod.fst := rfl
  rw [this, List.zipIdx_map_fst]
theorem SlCe.cells {w : World} {b off : Nat} {l : List Cel} (h : ∀ i x, l[i]? = some x → ∀ j v, (ceC x)[j]? = some v → w.cell? ⟨b, off + i * 6 + j, none⟩ = some v) {k : Nat} {x : Cel} (hx : l[k]? = some x) :
    w.cell? ⟨b, off + k * 6, none⟩ = some (.int .i64 x.x) ∧ w.cell? ⟨b, off + k * 6 + 1, none⟩ = some (.int .i64 x.z) ∧ w.cell? ⟨b, off + k * 6 + 2, none⟩ = some (.int .i64 x.p.n) ∧ w.cell? ⟨b, off + k * 6 + 3, none⟩ = some (.int .i64 x.p.d) ∧ w.cell? ⟨b, off + k * 6 + 4, none⟩ = some (.int .i64 x.q.n) ∧ w.cell? ⟨b, off + k * 6 + 5, none⟩ = some (.int .i64 x.q.d) :=
  ⟨h k x hx 0 _ rfl, h k x hx 1 _ rfl, h k x hx 2 _ rfl, h k x hx 3 _ rfl, h k x hx 4 _ rfl, h k x hx 5 _ rfl⟩

/-! ### Less -/
attribute [local go_sem] Instr.index
end Go.Proofs.YtjiklfffcnfdjaaGreat

namespace Go.Proofs.YtjiklfffcnfdjaaGreat
open Go.RowKit Go.Shelf Go.Sort
attribute [local go_sem] Oper.semAt_some

def hasC (a b : Pt) (x z : Int) : Bool := decide ((x, z) ∈ (rawC a b).map xz)
theorem hasC_of {a b : Pt} {l : List Cel} (hl : CelAt a b l) {x z : Int} {pre : List (Nat × Cel)} (hp : pre <+: ixs l l.length) (h : ∃ p ∈ pre, p.2.x = x ∧ p.2.z = z) : hasC a b x z = true := by
  obtain ⟨p, h1, h2, h3⟩ := h
  unfold hasC
  rw [decide_eq_true_eq, List.mem_map]
  refine ⟨p.2, hl.1.mem_iff.1 ?_, by simp [xz, h2, h3]⟩
  have h4 : p.2 ∈ (ixs l l.length).map Prod.snd := List.mem_map_of_mem (hp.subset h1)
  rwa [ixs_snd, List.take_length] at h4
theorem hasC_not {a b : Pt} {l : List Cel} (hl : CelAt a b l) {x z : Int} (h : ∀ p ∈ ixs l l.length, ¬ (p.2.x = x ∧ p.2.z = z)) : hasC a b x z = false := by
  unfold hasC
  rw [decide_eq_false_iff_not, List.mem_map]
  rintro ⟨c, h1, h2⟩
  have h3 : c ∈ (ixs l l.length).map Prod.snd := by rw [ixs_snd, List.take_length]; exact hl.1.mem_iff.2 h1
  obtain ⟨p, h4, rfl⟩ := List.mem_map.1 h3
  simp only [xz, Prod.mk.injEq] at h2
  exact h p h4 h2
theorem hasC_mem {a b : Pt} {l : List Cel} (hl : CelAt a b l) {c : Cel} (hc : c ∈ l) : hasC a b c.x c.z = true := by
  unfold hasC
  rw [decide_eq_true_eq, List.mem_map]
  exact ⟨c, hl.1.mem_iff.1 hc, rfl⟩

end Go.Proofs.YtjiklfffcnfdjaaGreat
