/- Walks: rows of triangles that may be. -/
import Derived.Test.YtilhmlapbifbbaaSo2
namespace Go.Proofs.Ytilhmlapbifbbaa
open Go.RowKit Go.Sort

@[local go_sem] theorem run_store_func (P : Program) (w : World) (a : Addr) (f : Fn) (x y : Array Value) (m : Mode) :
    (store a (.func f x y) m).run P w = match w.cell? a with
      | some _ => if w.frozen? a then .halt (.unsupported (.unsafePointer "a write to bytes that a string shares")) w else .ok () (w.setCell a (.func f x y))
      | none => match w.farStore P a (.func f x y) (m == .atomic) with
        | .ok (w', _) => .ok () w'
        | .error h => .halt h w := run_store P w a _ m rfl

/-- The list of what is asked of triangles: a value. -/
def trisV (Bw Bd : Nat) : List Value := [.func (.func 128) #[] #[], .func (.func 129) #[] #[.pointer (some ⟨Bw, 0, none⟩), .pointer (some ⟨Bd, 0, none⟩)], .int .i64 200, .int .i64 40]

set_option maxRecDepth 100000 in
set_option maxHeartbeats 1000000 in
theorem tris_any (W D : Int) (w : World) : Calls Try.prog 107 #[.int .i64 W, .int .i64 D] w fun e w' => e = .returned (.agg (trisV w.heap.size (w.heap.size + 1)).toArray) ∧ w'.cell? ⟨w.heap.size, 0, none⟩ = some (.int .i64 W) ∧ w'.cell? ⟨w.heap.size + 1, 0, none⟩ = some (.int .i64 D) ∧ Below w.heap.size w w' := by
  unfold trisV
  go_enter Try.func107, Try.ntmps107
  go_wp2
  refine bodyPost_ret (v := .agg #[.func (.func 128) #[] #[], .func (.func 129) #[] #[.pointer (some ⟨w.heap.size, 0, none⟩), .pointer (some ⟨w.heap.size + 1, 0, none⟩)], .int .i64 200, .int .i64 40]) (by simp [results, Try.results107, go_sem]) rfl ?_
  refine ⟨rfl, ?_, ?_, (((Below.refl _ _).alloc (Nat.le_refl _) _).alloc (by simp) _).alloc (by simp; omega) _⟩
  · exact (((Boxed.new w 3 (.int .i64 W)).alloc _).alloc _).cell
  · have := ((Boxed.new (w.alloc (.cells #[.int .i64 W] 3)) 3 (.int .i64 D)).alloc (.cells #[.func (.func 128) #[] #[], .func (.func 129) #[] #[.pointer (some ⟨w.heap.size, 0, none⟩), .pointer (some ⟨w.heap.size + 1, 0, none⟩)], .int .i64 200, .int .i64 40] 150)).cell
    simpa using this

set_option maxRecDepth 100000 in
set_option maxHeartbeats 2000000 in
theorem one_tri (W D : Int) (t : Tri3) (Bw Bd : Nat) (w : World) (hw : w.cell? ⟨Bw, 0, none⟩ = some (.int .i64 W)) (hd : w.cell? ⟨Bd, 0, none⟩ = some (.int .i64 D)) (hW : 0 ≤ W ∧ W ≤ 32) (hD : 0 ≤ D ∧ D ≤ 32) :
    Calls Try.prog 132 #[.agg (trisV Bw Bd).toArray, .agg (triC t).toArray] w fun e w' => e = .returned (.bool (idOk t.id && triOk W D t)) ∧ Below w.heap.size w w' := by
  have past : ∀ (w' : World) (o : Obj) (b : Nat) (v : Value), w'.cell? ⟨b, 0, none⟩ = some v → (w'.alloc o).cell? ⟨b, 0, none⟩ = some v := fun w' o b v h => (World.cell?_alloc_past _ _ _ (World.block_lt_of_cell? w' _ h)).trans h
  have cw4 := fun o1 o2 o3 o4 => past _ o4 _ _ (past _ o3 _ _ (past _ o2 _ _ (past _ o1 _ _ hw)))
  have cd4 := fun o1 o2 o3 o4 => past _ o4 _ _ (past _ o3 _ _ (past _ o2 _ _ (past _ o1 _ _ hd)))
  have Hc := fun (w' : World) h1 h2 => tri2_any W D t Bw Bd w' h1 h2 hW hD
  have HT1 := fun (w' : World) => tri1_any t w'
  obtain ⟨id, ⟨x0, y0, z0⟩, ⟨x1, y1, z1⟩, ⟨x2, y2, z2⟩⟩ := t
  have Hc := Lib.hid Hc
  have HT1 := Lib.hid HT1
  have Cw4 := Lib.hid cw4
  have Cd4 := Lib.hid cd4
  clear past hw hd cw4 cd4
  unfold trisV
  unfold triC
  by_cases h1 : 1 ≤ id
  · have d1 : decide (1 ≤ id) = true := decide_eq_true h1
    by_cases h2 : id ≤ 1073741824
    · have d2 : decide (id ≤ 1073741824) = true := decide_eq_true h2
      have Hi : Hid (idOk id = true) := by show _ = _; unfold idOk; rw [d1, d2]; rfl
      clear h1 h2
      go_enter Try.func132, Try.ntmps132
      go_wp2_with fail
      refine (HT1.out _).mono ?_
      rintro e w1 ⟨rfl, rfl⟩
      go_wp2_with fail
      refine (HT1.out _).mono ?_
      rintro e w1 ⟨rfl, rfl⟩
      go_wp2_with fail
      refine (Hc.out _ (Cw4.out _ _ _ _) (Cd4.out _ _ _ _)).mono ?_
      rintro e w3 ⟨rfl, hb3⟩
      have hb0 : Below w.heap.size w w3 := by refine Below.trans ?_ (hb3.mono (by simp; omega)); (repeat (first | exact Below.refl _ _ | refine Below.alloc ?_ (by simp; try omega) _))
      clear hb3
      go_wp2
      go_ret
      exact ⟨ret_bool (by rw [Hi.out]; rfl), hb0⟩
    · have d2 : decide (id ≤ 1073741824) = false := decide_eq_false h2
      have Hi : Hid (idOk id = false) := by show _ = _; unfold idOk; rw [d1, d2]; rfl
      clear h1 h2
      go_enter Try.func132, Try.ntmps132
      go_wp2_with fail
      refine (HT1.out _).mono ?_
      rintro e w1 ⟨rfl, rfl⟩
      go_wp2_with fail
      refine (HT1.out _).mono ?_
      rintro e w1 ⟨rfl, rfl⟩
      go_wp2
      go_ret
      exact ⟨ret_bool (by rw [Hi.out]; rfl), by (repeat (first | exact Below.refl _ _ | refine Below.alloc ?_ (by simp; try omega) _))⟩
  · have d1 : decide (1 ≤ id) = false := decide_eq_false h1
    have Hi : Hid (idOk id = false) := by show _ = _; unfold idOk; rw [d1]; rfl
    clear h1
    go_enter Try.func132, Try.ntmps132
    go_wp2_with fail
    refine (HT1.out _).mono ?_
    rintro e w1 ⟨rfl, rfl⟩
    go_wp2
    go_ret
    exact ⟨ret_bool (by rw [Hi.out]; rfl), by (repeat (first | exact Below.refl _ _ | refine Below.alloc ?_ (by simp; try omega) _))⟩

end Go.Proofs.Ytilhmlapbifbbaa
