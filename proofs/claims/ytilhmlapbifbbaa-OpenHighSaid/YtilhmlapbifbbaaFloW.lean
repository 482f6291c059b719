/- Walks: the law of layer 11: what it asks of its waking. -/
import Derived.Test.YtilhmlapbifbbaaFlo
namespace Go.Proofs.Ytilhmlapbifbbaa
open Go.RowKit Go.Sort

def wakeC : List Spn := [⟨0, 1, true⟩, ⟨3, 4, true⟩]
def wakeD : List Spn := [⟨0, 1, true⟩, ⟨4, 5, false⟩]
theorem wakeC_fl : flrs ⟨0, 1, 3, 1, 1, 8, 8⟩ wakeC = [⟨4, 1048576, 1⟩] := by decide
theorem wakeC_e : openE ⟨0, 1, 3, 1, 1, 8, 8⟩ wakeC = 0 := by decide
theorem wakeD_fl : flrs ⟨0, 1, 3, 1, 1, 8, 8⟩ wakeD = [⟨1, 4, 1⟩] := by decide
theorem wakeD_e : openE ⟨0, 1, 3, 1, 1, 8, 8⟩ wakeD = 0 := by decide

theorem SlFl.cells {w : World} {b off : Nat} {xs : List Flr} (h : ∀ i x, xs[i]? = some x → ∀ j v, (flrC x)[j]? = some v → w.cell? ⟨b, off + i * 3 + j, none⟩ = some v) {k : Nat} {x : Flr} (hx : xs[k]? = some x) :
    w.cell? ⟨b, off + k * 3, none⟩ = some (.int .i64 x.y) ∧ w.cell? ⟨b, off + k * 3 + 1, none⟩ = some (.int .i64 x.top) ∧ w.cell? ⟨b, off + k * 3 + 2, none⟩ = some (.int .i64 x.area) :=
  ⟨h k x hx 0 _ rfl, h k x hx 1 _ rfl, h k x hx 2 _ rfl⟩

set_option maxHeartbeats 400000 in
theorem wakes11_any (w : World) :
    Calls Try.prog 32 #[] w fun e w' => e = .returned (.bool true) ∧ Below w.heap.size w w' := by
  have HA1 := Lib.hid wakeC_fl
  have HA2 := Lib.hid wakeC_e
  have HB1 := Lib.hid wakeD_fl
  have HB2 := Lib.hid wakeD_e
  go_enter Try.func32, Try.ntmps32
  go_wp2_with fail
  refine (floors_any ⟨0, 1, 3, 1, 1, 8, 8⟩ (some ⟨w.heap.size + 1, 0, none⟩) 2 2 wakeC _ (by have := SlSp.lits (w.alloc (.cells #[.int .i64 0, .int .i64 1, .int .i64 3, .int .i64 1, .int .i64 1, .int .i64 8, .int .i64 8] 32)) wakeC 50 (by decide); rw [World.size_alloc] at this; exact this)).mono ?_
  rintro e w2 ⟨v2, he, hown2, hb2⟩
  rw [HA2.out] at he
  rw [HA1.out] at hown2
  subst he
  obtain ⟨a2, k2, rfl, hs2⟩ := OwnR.reads (f := flrC) (sz := 3) (fun _ => rfl) hown2
  have hB2 : Below w.heap.size w w2 := (((Below.refl _ _).alloc (Nat.le_refl _) _).alloc (by simp) _).trans (hb2.mono (by simp; omega))
  have HC2 : Hid (CfgAt w.heap.size ⟨0, 1, 3, 1, 1, 8, 8⟩ w2) := ((CfgAt.new ⟨0, 1, 3, 1, 1, 8, 8⟩ w 32).below ((Below.refl _ _).alloc (Nat.le_refl _) _) (by simp)).below hb2 (by simp; omega)
  have hsz2 : w.heap.size + 2 ≤ w2.heap.size := by have := hb2.size; simp at this; omega
  have Hs2 := Lib.hid hs2
  clear hs2 hown2 hb2
  have f0 := HC2.out 0 _ rfl
  have f1 := HC2.out 1 _ rfl
  have f2 := HC2.out 2 _ rfl
  have f3 := HC2.out 3 _ rfl
  have f4 := HC2.out 4 _ rfl
  have f5 := HC2.out 5 _ rfl
  have f6 := HC2.out 6 _ rfl
  simp only at f0 f1 f2 f3 f4 f5 f6
  simp only [List.length_cons, List.length_nil, Nat.zero_add]
  go_wp2_with fail
  refine (floors_any ⟨0, 1, 3, 1, 1, 8, 8⟩ (some ⟨w2.heap.size, 0, none⟩) 2 2 wakeD _ (SlSp.lits w2 wakeD 50 (by decide))).mono ?_
  rintro e w4 ⟨v4, he, hown4, hb4⟩
  clear f0 f1 f2 f3 f4 f5 f6 HC2
  rw [HB2.out] at he
  rw [HB1.out] at hown4
  subst he
  obtain ⟨a4, k4, rfl, hs4⟩ := OwnR.reads (f := flrC) (sz := 3) (fun _ => rfl) hown4
  have hb24 : Below w2.heap.size w2 w4 := ((Below.refl _ _).alloc (Nat.le_refl _) _).trans (hb4.mono (by simp))
  have hB4 : Below w.heap.size w w4 := hB2.trans (hb24.mono hB2.size)
  obtain ⟨b4, off4, rfl, _, hc4⟩ := hs4.at0 (by decide)
  obtain ⟨b2, off2, rfl, _, hc2⟩ := (Hs2.out.below hb24 (Nat.le_refl _)).at0 (by decide)
  obtain ⟨g1, g2, g3⟩ := SlFl.cells (k := 0) hc4 rfl
  obtain ⟨h1, h2, h3⟩ := SlFl.cells (k := 0) hc2 rfl
  simp only [Nat.zero_mul, Nat.add_zero] at g1 g2 g3 h1 h2 h3
  clear hc2 hc4 hs4 hown4 hb4 hb24 hB2 Hs2 HA1 HA2 HB1 HB2
  simp only [List.length_cons, List.length_nil, Nat.zero_add]
  go_wp2
  go_ret
  exact ⟨rfl, hB4⟩

end Go.Proofs.Ytilhmlapbifbbaa
