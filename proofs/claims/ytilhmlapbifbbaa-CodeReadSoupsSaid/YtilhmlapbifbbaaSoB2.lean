/- Walks: boxes that may be. -/
import Derived.Test.YtilhmlapbifbbaaSoB
namespace Go.Proofs.Ytilhmlapbifbbaa
open Go.RowKit Go.Sort
attribute [local go_sem] run_store_func

theorem cell_heap {w : World} {b k : Nat} {cs : Array Value} {t : TypeId} {fr : Nat × Nat} {v : Value} (h : w.heap[b]? = some (.cells cs t fr)) (hk : cs[k]? = some v) : w.cell? ⟨b, k, none⟩ = some v := by simp [World.cell?, h, hk]
theorem bxall_any (W D : Int) (b : Bx) (Bb Bc Bs : Nat) (w : World) (c1 : w.cell? ⟨Bb, 1, none⟩ = some (.int .i64 b.x0)) (c2 : w.cell? ⟨Bb, 2, none⟩ = some (.int .i64 b.z0)) (c3 : w.cell? ⟨Bb, 3, none⟩ = some (.int .i64 b.x1)) (c4 : w.cell? ⟨Bb, 4, none⟩ = some (.int .i64 b.z1)) (c5 : w.cell? ⟨Bb, 5, none⟩ = some (.int .i64 b.y0)) (c6 : w.cell? ⟨Bb, 6, none⟩ = some (.int .i64 b.y1)) (c7 : w.cell? ⟨Bb, 7, none⟩ = some (.int .i64 b.area)) (hw : w.cell? ⟨Bc, 5, none⟩ = some (.int .i64 W)) (hd : w.cell? ⟨Bc, 6, none⟩ = some (.int .i64 D))
    (s0 : w.cell? ⟨Bs, 0, none⟩ = some (.func (.func 136) #[] #[.pointer (some ⟨Bb, 0, none⟩), .pointer (some ⟨Bc, 0, none⟩)])) (s1 : w.cell? ⟨Bs, 1, none⟩ = some (.func (.func 137) #[] #[.pointer (some ⟨Bb, 0, none⟩), .pointer (some ⟨Bc, 0, none⟩)])) (s2 : w.cell? ⟨Bs, 2, none⟩ = some (.func (.func 138) #[] #[.pointer (some ⟨Bb, 0, none⟩)])) (s3 : w.cell? ⟨Bs, 3, none⟩ = some (.func (.func 139) #[] #[.pointer (some ⟨Bb, 0, none⟩)])) :
    Calls Try.prog 135 #[.slice (some ⟨Bs, 0, none⟩) 4 4] w fun e w' => e = .returned (.bool (bxOk W D b)) ∧ w = w' :=
  all_any Bb Bc Bs _ _ _ _ w s0 s1 s2 s3 (nothold0 Bb Bc W b w c1 c3 hw) (nothold1 Bb Bc D b w c2 c4 hd) (nothold2 Bb b w c5 c6) (nothold3 Bb b w c7)

set_option maxRecDepth 100000 in
set_option maxHeartbeats 2000000 in
theorem bxmay_any (W D : Int) (b : Bx) (Bc : Nat) (w : World) (hw : w.cell? ⟨Bc, 5, none⟩ = some (.int .i64 W)) (hd : w.cell? ⟨Bc, 6, none⟩ = some (.int .i64 D)) :
    Calls Try.prog 134 #[.agg (bxC b).toArray, .pointer (some ⟨Bc, 0, none⟩)] w fun e w' => e = .returned (.bool (bxOk W D b)) ∧ Below w.heap.size w w' := by
  have past : ∀ (w' : World) (o : Obj) (b k : Nat) (v : Value), w'.cell? ⟨b, k, none⟩ = some v → (w'.alloc o).cell? ⟨b, k, none⟩ = some v := fun w' o b k v h => (World.cell?_alloc_past _ _ _ (World.block_lt_of_cell? w' _ h)).trans h
  have hN := fun o1 o2 : Obj => (Below.heap_alloc (w.alloc o1) o2 w.heap.size (by simp)).trans (World.alloc_heap_new w o1)
  have hS := fun o1 o2 : Obj => (World.alloc_heap_new (w.alloc o1) o2)
  have HA := Lib.hid (bxall_any W D b w.heap.size Bc (w.heap.size + 1) ((w.alloc (.cells #[.int .i64 b.id, .int .i64 b.x0, .int .i64 b.z0, .int .i64 b.x1, .int .i64 b.z1, .int .i64 b.y0, .int .i64 b.y1, .int .i64 b.area] 114)).alloc (.cells #[.func (.func 136) #[] #[.pointer (some ⟨w.heap.size, 0, none⟩), .pointer (some ⟨Bc, 0, none⟩)], .func (.func 137) #[] #[.pointer (some ⟨w.heap.size, 0, none⟩), .pointer (some ⟨Bc, 0, none⟩)], .func (.func 138) #[] #[.pointer (some ⟨w.heap.size, 0, none⟩)], .func (.func 139) #[] #[.pointer (some ⟨w.heap.size, 0, none⟩)]] 23))
    (by simp [World.cell?, hN]) (by simp [World.cell?, hN]) (by simp [World.cell?, hN]) (by simp [World.cell?, hN]) (by simp [World.cell?, hN]) (by simp [World.cell?, hN]) (by simp [World.cell?, hN])
    (past _ _ _ _ _ (past _ _ _ _ _ hw)) (past _ _ _ _ _ (past _ _ _ _ _ hd))
    (cell_heap (by simpa only [World.size_alloc] using hS (.cells #[.int .i64 b.id, .int .i64 b.x0, .int .i64 b.z0, .int .i64 b.x1, .int .i64 b.z1, .int .i64 b.y0, .int .i64 b.y1, .int .i64 b.area] 114) (.cells #[.func (.func 136) #[] #[.pointer (some ⟨w.heap.size, 0, none⟩), .pointer (some ⟨Bc, 0, none⟩)], .func (.func 137) #[] #[.pointer (some ⟨w.heap.size, 0, none⟩), .pointer (some ⟨Bc, 0, none⟩)], .func (.func 138) #[] #[.pointer (some ⟨w.heap.size, 0, none⟩)], .func (.func 139) #[] #[.pointer (some ⟨w.heap.size, 0, none⟩)]] 23)) rfl) (cell_heap (by simpa only [World.size_alloc] using hS (.cells #[.int .i64 b.id, .int .i64 b.x0, .int .i64 b.z0, .int .i64 b.x1, .int .i64 b.z1, .int .i64 b.y0, .int .i64 b.y1, .int .i64 b.area] 114) (.cells #[.func (.func 136) #[] #[.pointer (some ⟨w.heap.size, 0, none⟩), .pointer (some ⟨Bc, 0, none⟩)], .func (.func 137) #[] #[.pointer (some ⟨w.heap.size, 0, none⟩), .pointer (some ⟨Bc, 0, none⟩)], .func (.func 138) #[] #[.pointer (some ⟨w.heap.size, 0, none⟩)], .func (.func 139) #[] #[.pointer (some ⟨w.heap.size, 0, none⟩)]] 23)) rfl) (cell_heap (by simpa only [World.size_alloc] using hS (.cells #[.int .i64 b.id, .int .i64 b.x0, .int .i64 b.z0, .int .i64 b.x1, .int .i64 b.z1, .int .i64 b.y0, .int .i64 b.y1, .int .i64 b.area] 114) (.cells #[.func (.func 136) #[] #[.pointer (some ⟨w.heap.size, 0, none⟩), .pointer (some ⟨Bc, 0, none⟩)], .func (.func 137) #[] #[.pointer (some ⟨w.heap.size, 0, none⟩), .pointer (some ⟨Bc, 0, none⟩)], .func (.func 138) #[] #[.pointer (some ⟨w.heap.size, 0, none⟩)], .func (.func 139) #[] #[.pointer (some ⟨w.heap.size, 0, none⟩)]] 23)) rfl) (cell_heap (by simpa only [World.size_alloc] using hS (.cells #[.int .i64 b.id, .int .i64 b.x0, .int .i64 b.z0, .int .i64 b.x1, .int .i64 b.z1, .int .i64 b.y0, .int .i64 b.y1, .int .i64 b.area] 114) (.cells #[.func (.func 136) #[] #[.pointer (some ⟨w.heap.size, 0, none⟩), .pointer (some ⟨Bc, 0, none⟩)], .func (.func 137) #[] #[.pointer (some ⟨w.heap.size, 0, none⟩), .pointer (some ⟨Bc, 0, none⟩)], .func (.func 138) #[] #[.pointer (some ⟨w.heap.size, 0, none⟩)], .func (.func 139) #[] #[.pointer (some ⟨w.heap.size, 0, none⟩)]] 23)) rfl))
  clear past hw hd hN hS
  unfold bxC
  go_enter Try.func134, Try.ntmps134
  go_wp2_with fail
  refine HA.out.mono ?_
  rintro e w3 ⟨rfl, rfl⟩
  have HB := Lib.hid (show Below w.heap.size w ((w.alloc (.cells #[.int .i64 b.id, .int .i64 b.x0, .int .i64 b.z0, .int .i64 b.x1, .int .i64 b.z1, .int .i64 b.y0, .int .i64 b.y1, .int .i64 b.area] 114)).alloc (.cells #[.func (.func 136) #[] #[.pointer (some ⟨w.heap.size, 0, none⟩), .pointer (some ⟨Bc, 0, none⟩)], .func (.func 137) #[] #[.pointer (some ⟨w.heap.size, 0, none⟩), .pointer (some ⟨Bc, 0, none⟩)], .func (.func 138) #[] #[.pointer (some ⟨w.heap.size, 0, none⟩)], .func (.func 139) #[] #[.pointer (some ⟨w.heap.size, 0, none⟩)]] 23)) by (repeat (first | exact Below.refl _ _ | refine Below.alloc ?_ (by simp; try omega) _)))
  go_wp2
  go_ret
  exact ⟨rfl, HB.out⟩

/-- The list of what is asked of boxes: a value. -/
def boxesV (Bc : Nat) : List Value := [.func (.func 133) #[] #[], .func (.func 134) #[] #[.pointer (some ⟨Bc, 0, none⟩)], .int .i64 16, .int .i64 2]
theorem boxid_any (b : Bx) (w : World) : Calls Try.prog 133 #[.agg (bxC b).toArray] w fun e w' => e = .returned (.int .i64 b.id) ∧ w' = w.alloc (.cells (bxC b).toArray 114) := by
  unfold bxC
  go_enter Try.func133, Try.ntmps133
  go_wp2
  go_ret
  exact ⟨rfl, rfl⟩
set_option maxRecDepth 100000 in
set_option maxHeartbeats 1000000 in
theorem boxes_any (c : Cfg) (w : World) : Calls Try.prog 109 #[cfgV c] w fun e w' => e = .returned (.agg (boxesV w.heap.size).toArray) ∧ w'.cell? ⟨w.heap.size, 5, none⟩ = some (.int .i64 c.w) ∧ w'.cell? ⟨w.heap.size, 6, none⟩ = some (.int .i64 c.d) ∧ Below w.heap.size w w' := by
  have hN := fun o1 o2 : Obj => (Below.heap_alloc (w.alloc o1) o2 w.heap.size (by simp)).trans (World.alloc_heap_new w o1)
  unfold boxesV cfgV
  go_enter Try.func109, Try.ntmps109
  go_wp2
  refine bodyPost_ret (v := .agg #[.func (.func 133) #[] #[], .func (.func 134) #[] #[.pointer (some ⟨w.heap.size, 0, none⟩)], .int .i64 16, .int .i64 2]) (by simp [results, Try.results109, go_sem]) rfl ?_
  refine ⟨rfl, ?_, ?_, by (repeat (first | exact Below.refl _ _ | refine Below.alloc ?_ (by simp; try omega) _))⟩
  · simp [World.cell?, hN]
  · simp [World.cell?, hN]

end Go.Proofs.Ytilhmlapbifbbaa
