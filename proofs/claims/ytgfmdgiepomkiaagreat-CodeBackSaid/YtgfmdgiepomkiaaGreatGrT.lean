/- Walk: is a row of rectangles great? -/
import Derived.Test.YtgfmdgiepomkiaaGreatKe
namespace Go.Proofs.YtgfmdgiepomkiaaGreat
open Go.RowKit Go.Sort
attribute [local go_sem] Instr.index

def GreatPost (w : World) (e : Ending) (w' : World) : Prop := ∃ g : Bool, e = .returned (.bool g) ∧ Below w.heap.size w w'
set_option maxRecDepth 100000 in
set_option maxHeartbeats 4000000 in
theorem great18_any (a : Option Addr) (n c : Nat) (xs : List (RHd × Rc)) (k : Int) (w : World) (hx : SlRc w a n c xs) :
  Calls Tryz.prog 5 #[.slice a n c, .int .i64 k] w (GreatPost w) := by
 have Hl := Lib.hid hx.sl.len
 have hmax := hx.sl.max
 have hle := hx.sl.le
 have HX0 := Lib.hid (fun W (hb' : Below w.heap.size w W) => hx.below hb' (Nat.le_refl _))
 clear hx
 go_enter Tryz.func5, Tryz.ntmps5
 by_cases hk : k < (n : Int)
 case pos =>
  go_wp2
  go_ret
  exact ⟨_, rfl, Below.refl _ _⟩
 go_wp2_with fail
 go_loopw [5] (fun s wr => ∃ i : Nat, s = .int .i64 i ∧ i ≤ n ∧ Below w.heap.size w wr) (fun s _ => n - (intOf s).toNat)
 case atStart => exact ⟨0, rfl, Nat.zero_le _, Below.refl _ _⟩
 case round =>
  obtain ⟨i, rfl, hi, hbr⟩ := hrel
  by_cases hin : i < n
  case neg =>
   obtain rfl : i = n := by omega
   have hinI : ¬ (i : Int) < (i : Int) := by omega
   go_wp2
   go_ret
   exact ⟨_, rfl, hbr⟩
  have hinI : (i : Int) < (n : Int) := by omega
  have wi1 : IntKind.i64.wrap ((i : Int) + 1) = ((i + 1 : Nat) : Int) := by rw [IntKind.wrap_i64]; omega
  obtain ⟨⟨hr, rr⟩, hxi⟩ : ∃ x, xs[i]? = some x := ⟨_, List.getElem?_eq_getElem (by rw [Hl.out]; exact hin)⟩
  have hw := HX0.out _ hbr
  obtain ⟨G, off, rfl, _, _⟩ := hw.sl.at0 (by omega)
  have r5 := hw.at hxi 5 _ rfl
  have r6 := hw.at hxi 6 _ rfl
  clear hw
  by_cases h1 : (100 : Int) < (rr.ys.length : Int)
  case pos =>
   go_wp2
   go_ret
   exact ⟨_, rfl, hbr⟩
  by_cases h2 : (100 : Int) < (rr.ts.length : Int)
  case pos =>
   go_wp2
   go_ret
   exact ⟨_, rfl, hbr⟩
  go_wp2
  go_roundw
  case rel => exact ⟨i + 1, by go_num, by omega, hbr⟩
  case measure => simp [intOf]; omega

end Go.Proofs.YtgfmdgiepomkiaaGreat
