/- Views of memory: triangles in a row. -/
import Derived.Test.YtjiklfffcnfdjaaGreatGe
import Derived.Test.YtjiklfffcnfdjaaGreatHn
import Derived.Test.YtjiklfffcnfdjaaGreatGp
namespace Go.Proofs.YtjiklfffcnfdjaaGreat
open Go.RowKit

def trC (t : Tr) : List Value := [.int .i64 t.id, .int .i64 t.a.x, .int .i64 t.a.y, .int .i64 t.a.z, .int .i64 t.b.x, .int .i64 t.b.y, .int .i64 t.b.z, .int .i64 t.c.x, .int .i64 t.c.y, .int .i64 t.c.z]
theorem trC_len (t : Tr) : (trC t).length = 10 := rfl
abbrev SlTr := SlR trC 10
abbrev OwnTr := OwnR trC 10 77
/-- The k-th triangle's cells. -/
theorem SlTr.cells {w : World} {b off : Nat} {xs : List Tr} (h : ∀ i x, xs[i]? = some x → ∀ j v, (trC x)[j]? = some v → w.cell? ⟨b, off + i * 10 + j, none⟩ = some v) {k : Nat} {x : Tr} (hx : xs[k]? = some x) :
    w.cell? ⟨b, off + k * 10, none⟩ = some (.int .i64 x.id) ∧ w.cell? ⟨b, off + k * 10 + 1, none⟩ = some (.int .i64 x.a.x) ∧ w.cell? ⟨b, off + k * 10 + 2, none⟩ = some (.int .i64 x.a.y) ∧ w.cell? ⟨b, off + k * 10 + 3, none⟩ = some (.int .i64 x.a.z) ∧ w.cell? ⟨b, off + k * 10 + 4, none⟩ = some (.int .i64 x.b.x) ∧ w.cell? ⟨b, off + k * 10 + 5, none⟩ = some (.int .i64 x.b.y) ∧ w.cell? ⟨b, off + k * 10 + 6, none⟩ = some (.int .i64 x.b.z) ∧ w.cell? ⟨b, off + k * 10 + 7, none⟩ = some (.int .i64 x.c.x) ∧ w.cell? ⟨b, off + k * 10 + 8, none⟩ = some (.int .i64 x.c.y) ∧ w.cell? ⟨b, off + k * 10 + 9, none⟩ = some (.int .i64 x.c.z) :=
  ⟨h k x hx 0 _ rfl, h k x hx 1 _ rfl, h k x hx 2 _ rfl, h k x hx 3 _ rfl, h k x hx 4 _ rfl, h k x hx 5 _ rfl, h k x hx 6 _ rfl, h k x hx 7 _ rfl, h k x hx 8 _ rfl, h k x hx 9 _ rfl⟩
end Go.Proofs.YtjiklfffcnfdjaaGreat
