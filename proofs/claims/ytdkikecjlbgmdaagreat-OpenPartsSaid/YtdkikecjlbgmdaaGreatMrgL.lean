/- Walks: the reference's Same at two rows that read the same; wakes; the law SpansMerge. -/
import Derived.Test.YtdkikecjlbgmdaaGreatMrgW
namespace Go.Proofs.YtdkikecjlbgmdaaGreat
open Go.RowKit

theorem SlSp.lit (w : World) (l : List Spn) (e : TypeId) (hl : l.length ≤ 9223372036854775807) : SlSp (w.alloc (.cells (l.flatMap spnC).toArray e)) (some ⟨w.heap.size, 0, none⟩) l.length l.length l := by
  refine ⟨rfl, Nat.le_refl _, hl, .inr ⟨w.heap.size, 0, rfl, by simp, fun i x hx j v hv => ?_⟩⟩
  rw [World.cell?_alloc_at _ _ _ _ rfl]
  have := flatMap_at spnC_len l i x j v hx hv
  rw [Nat.zero_add]
  simpa using this

set_option maxHeartbeats 1000000 in
theorem refsame_self (a b : Option Addr) (n c d : Nat) (xs : List Spn) (w : World) (hx : SlSp w a n c xs) (hy : SlSp w b n d xs) :
    Calls Tryz.prog 11 #[.slice a n c, .slice b n d] w fun e w' => e = .returned (.bool true) ∧ Below w.heap.size w w' := by
  have Hl := Lib.hid hx.len
  have hmax := hx.max
  have hle := hx.le
  have Hx := Lib.hid hx; clear hx
  have Hy := Lib.hid hy; clear hy
  go_enter Tryz.func11, Tryz.ntmps11
  go_wp2
  go_loopw [5] (fun i wr => ∃ k : Nat, i = .int .i64 k ∧ k ≤ n ∧ Below w.heap.size w wr) (fun i _ => n - (intOf i).toNat)
  case atStart => exact ⟨0, rfl, Nat.zero_le _, Below.refl _ _⟩
  case round =>
    obtain ⟨k, rfl, hk, hb⟩ := hrel
    by_cases hlt : k < n
    · obtain ⟨b1, off1, rfl, hbl1, hc1⟩ := (Hx.out.below hb (Nat.le_refl _)).at0 (by omega)
      obtain ⟨b2, off2, rfl, hbl2, hc2⟩ := (Hy.out.below hb (Nat.le_refl _)).at0 (by omega)
      obtain ⟨x, hxk⟩ : ∃ x, xs[k]? = some x := ⟨_, List.getElem?_eq_getElem (by rw [Hl.out]; exact hlt)⟩
      obtain ⟨c1, c2, c3⟩ := SlSp.cells hc1 hxk
      obtain ⟨d1, d2, d3⟩ := SlSp.cells hc2 hxk
      obtain ⟨xlo, xhi, xwk⟩ := x
      clear hc1 hc2 hxk
      simp only at c1 c2 c3 d1 d2 d3
      go_wp2
      have e_c1 := fun d os => cell_regrown c1 d os
      have e_c2 := fun d os => cell_regrown c2 d os
      have e_c3 := fun d os => cell_regrown c3 d os
      have e_d1 := fun d os => cell_regrown d1 d os
      have e_d2 := fun d os => cell_regrown d2 d os
      have e_d3 := fun d os => cell_regrown d3 d os
      clear c1 c2 c3 d1 d2 d3
      refine wp_region_quiet_below (by kernel_rfl) (by kernel_rfl) ?_
      repeat (go_big_quiet_step (fail))
      refine wpQuiet_nil ?_
      rintro w2 ⟨⟨dq, osq⟩, hw''⟩
      have hb2 : Below w.heap.size w w2 := by rw [hw'']; exact hb.trans ((below_regrown wr dq osq).mono hb.size)
      have hstep : Below wr.heap.size wr w2 := by rw [hw'']; exact below_regrown wr dq osq
      clear hw'' e_c1 e_c2 e_c3 e_d1 e_d2 e_d3
      clear hstep
      go_wp2
      go_roundw
      case rel => exact ⟨k + 1, by go_num, by omega, hb2⟩
      case measure => simp [intOf]; omega
    · obtain rfl : k = n := by omega
      go_wp2
      go_ret
      exact ⟨rfl, hb⟩
theorem wkA : mrgE [⟨0, 2, false⟩, ⟨2, 5, true⟩] = 0 ∧ mrgR [⟨0, 2, false⟩, ⟨2, 5, true⟩] = [⟨0, 5, true⟩] := by decide
theorem wkB : mrgE [⟨0, 6, false⟩, ⟨2, 5, true⟩] = 0 ∧ mrgR [⟨0, 6, false⟩, ⟨2, 5, true⟩] = [⟨0, 6, false⟩] := by decide
theorem wkC : mrgE [⟨0, 1, false⟩, ⟨2, 3, false⟩] = 0 ∧ mrgR [⟨0, 1, false⟩, ⟨2, 3, false⟩] = [⟨0, 1, false⟩, ⟨2, 3, false⟩] := by decide

end Go.Proofs.YtdkikecjlbgmdaaGreat
