/- Views of memory: rows of tiles, rows of hops that lead somewhere, a mesh. -/
import Derived.Test.YtmgkkmcihplojaaGreatKe
import Derived.Test.YtmgkkmcihplojaaGreatKg
namespace Go.Proofs.YtmgkkmcihplojaaGreat
open Go.RowKit Go.Sort

/-- A tile, and where its rows lie. -/
structure Tl where
  x : Int
  z : Int
  ra : Option Addr
  rn : Nat
  rc : Nat
  rs : List (RHd × Rc)
  da : Option Addr
  dn : Nat
  dc : Nat
  ds : List Dr
def tlC (t : Tl) : List Value := [.int .i64 t.x, .int .i64 t.z, .slice t.ra t.rn t.rc, .slice t.da t.dn t.dc]
theorem tlC_len (t : Tl) : (tlC t).length = 4 := rfl
/-- A row of tiles, and all their rows. -/
structure SlTl (w : World) (a : Option Addr) (n c : Nat) (ts : List Tl) : Prop where
  sl : SlR tlC 4 w a n c ts
  each : ∀ t ∈ ts, SlRc w t.ra t.rn t.rc t.rs ∧ SlR drC 6 w t.da t.dn t.dc t.ds
theorem SlTl.below {w w' : World} {a : Option Addr} {n c : Nat} {ts : List Tl} (h : SlTl w a n c ts) {B : Nat} (hb : Below B w w') (hB : w.heap.size ≤ B) : SlTl w' a n c ts :=
  ⟨h.sl.below hb hB, fun t ht => ⟨(h.each t ht).1.below hb hB, (h.each t ht).2.below hb hB⟩⟩
theorem SlR.cells {α : Type} {f : α → List Value} {sz : Nat} {w : World} {b off n c : Nat} {xs : List α} {k : Nat} {x : α} (h : SlR f sz w (some ⟨b, off, none⟩) n c xs) (hx : xs[k]? = some x) : ∀ j u, (f x)[j]? = some u → w.cell? ⟨b, off + k * sz + j, none⟩ = some u := by
  intro j u hu
  have hk : k < xs.length := (List.getElem?_eq_some_iff.1 hx).1
  have hlen := h.len
  obtain ⟨b', off', e, _, hc⟩ := h.at0 (by omega)
  cases e
  exact hc k x hx j u hu
theorem SlTl.one {w : World} {a : Option Addr} {n c : Nat} {ts : List Tl} {k : Nat} {t : Tl} (h : SlTl w a n c ts) (hx : ts[k]? = some t) : SlRc w t.ra t.rn t.rc t.rs ∧ SlR drC 6 w t.da t.dn t.dc t.ds := h.each t (List.mem_of_getElem? hx)

/-- An end of a hop. -/
structure En where
  tile : Int
  rect : Int
  x : Int
  z : Int
  y : Int
/-- A hop that leads somewhere. -/
structure Ac where
  id : Int
  f : En
  t : En
  both : Bool
  area : Int
  cost : Int
def acC (h : Ac) : List Value := [.int .i64 h.id, .int .i64 h.f.tile, .int .i64 h.f.rect, .int .i64 h.f.x, .int .i64 h.f.z, .int .i64 h.f.y, .int .i64 h.t.tile, .int .i64 h.t.rect, .int .i64 h.t.x, .int .i64 h.t.z, .int .i64 h.t.y, .bool h.both, .int .i64 h.area, .int .i64 h.cost]

/-- A mesh, and where its rows lie. -/
structure Msh where
  cf : Cfg
  ta : Option Addr
  tn : Nat
  tc : Nat
  ts : List Tl
  ra : Option Addr
  rn : Nat
  rc : Nat
  rs : List (RHd × Rc)
  da : Option Addr
  dn : Nat
  dc : Nat
  ds : List Dr
  ha : Option Addr
  hn : Nat
  hc : Nat
  hs : List Ac
structure MshAt (w : World) (m : Msh) : Prop where
  t : SlTl w m.ta m.tn m.tc m.ts
  r : SlRc w m.ra m.rn m.rc m.rs
  d : SlR drC 6 w m.da m.dn m.dc m.ds
  h : SlR acC 14 w m.ha m.hn m.hc m.hs
theorem MshAt.below {w w' : World} {m : Msh} (h : MshAt w m) (hb : Below w.heap.size w w') : MshAt w' m :=
  ⟨h.t.below hb (Nat.le_refl _), h.r.below hb (Nat.le_refl _), h.d.below hb (Nat.le_refl _), h.h.below hb (Nat.le_refl _)⟩
end Go.Proofs.YtmgkkmcihplojaaGreat
