/- Walks: less; Clone of a row. -/
import Derived.Test.YtilhmlapbifbbaaMat
import Derived.Test.YtilhmlapbifbbaaPairs
import Derived.Lib.SliceRun
namespace Go.Proofs.Ytilhmlapbifbbaa
open Go.RowKit Go.Sort

theorem info_row : (Try.prog.info? 36).map (fun i => (i.zero, i.size, i.bytes)) = some (some (.slice none 0 0), 1, 24) := by kernel_rfl
theorem info_i64' : (Try.prog.info? 3).map (fun i => (i.zero, i.size, i.bytes)) = some (some (.int .i64 0), 1, 8) := by kernel_rfl

set_option maxHeartbeats 400000 in
theorem less_any (a b : Int) (w : World) : Calls Try.prog 71 #[.int .i64 a, .int .i64 b] w fun e w' => e = .returned (.bool (lessI a b)) ∧ w = w' := by
  by_cases ha : a = -1
  · have q : (a != -1) = false := by simp [ha]
    have H : Hid (lessI a b = false) := by show _ = _; simp [lessI, ha]
    clear ha
    go_enter Try.func71, Try.ntmps71
    go_wp2
    go_ret
    exact ⟨ret_bool H.out.symm, rfl⟩
  · have q : (a != -1) = true := by simp [ha]
    by_cases hb : b = -1
    · have q2 : (b == -1) = true := by simp [hb]
      have H : Hid (lessI a b = true) := by show _ = _; unfold lessI; rw [q, q2]; rfl
      clear ha hb
      go_enter Try.func71, Try.ntmps71
      go_wp2
      go_ret
      exact ⟨ret_bool H.out.symm, rfl⟩
    · have q2 : (b == -1) = false := by simp [hb]
      have H : Hid (lessI a b = decide (a < b)) := by show _ = _; unfold lessI; rw [q, q2]; rfl
      clear ha hb
      go_enter Try.func71, Try.ntmps71
      go_wp2
      go_ret
      exact ⟨ret_bool H.out.symm, rfl⟩

set_option maxHeartbeats 400000 in
theorem clone_any (a : Option Addr) (n c : Nat) (xs : List Int) (w : World) (hx : SlI .i64 w a n c xs) (h0 : 0 < n) (hn : n ≤ 1000) :
    Calls Try.prog 69 #[.slice a n c] w fun e w' => ∃ m : MRow, e = .returned (mrV m) ∧ m.xs = xs ∧ MRowAt w.heap.size w' m ∧ Below w.heap.size w w' := by
  obtain ⟨b, off, rfl, hc⟩ := hx.at0 h0
  have hl := hx.len
  have hle := hx.le
  have hmax := hx.max
  have Hc := Lib.hid hc
  have Hl := Lib.hid hl
  have hnil := fun w => Lib.run_eql_slice_nil (P := Try.prog) w 36 3 (some ⟨b, off, none⟩) n c 0 0 Try.underlying36
  obtain ⟨i0, hi, hz0, hz1, hz2⟩ := info_parts info_i64'
  clear hc hl hx
  have hbw : b < w.heap.size := by have := World.block_lt_of_cell? w _ (Hc.out 0 h0); simpa using this
  go_enter Try.func69, Try.ntmps69
  go_wp2_with (at_builtin; refine wpList_app _ rfl _ _ 36 rfl w.heap.size 3 i0 (.int .i64 0) 1 8 Try.underlying36 hi hz0 hz1 hz2 rfl (by decide) (.slice (some ⟨w.heap.size, 0, none⟩) 0 0) 0 [] rfl ?_ ⟨b, off, none⟩ n c (xs.map (Value.int .i64)) rfl h0 ?_ ?_ ?_ ?_ ?_ ?_ ?_)
  · exact ⟨rfl, .inr ⟨w.heap.size, 0, #[], rfl, Nat.le_refl _, World.alloc_heap_new w _, Nat.le_refl _, Nat.zero_le _, rfl, rfl⟩⟩
  · rw [List.length_map, Hl.out]; omega
  · intro j u hu
    rw [List.getElem?_map] at hu
    cases hj : xs[j]? with
    | none => rw [hj] at hu; cases hu
    | some x =>
      rw [hj] at hu
      simp at hu
      subst hu
      have hjl := (List.getElem?_eq_some_iff.1 hj).1
      rw [Addr.add_lit, World.cell?_alloc_past _ _ _ hbw, Hc.out j (by rw [← Hl.out]; exact hjl), List.getD_eq_getElem?_getD, hj]
      rfl
  · intro u hu
    obtain ⟨x, _, rfl⟩ := List.mem_map.1 hu
    rfl
  · unfold maxLen; omega
  · omega
  · simp
  intro v' w' hown hap
  obtain ⟨m, rfl, hm, hrow⟩ := MRowAt.of_own (B := w.heap.size) (xs := xs) (n := 0 + n) (v := v') (w := w') (by simpa [OwnI] using hown) (by omega)
  have hB : Below w.heap.size w w' := ((Below.refl _ _).alloc (Nat.le_refl _) _).trans (hap.below (by simp) (by simp [Value.ownBlock]))
  clear hown hap
  unfold mrV
  go_wp2
  go_ret
  exact ⟨m, rfl, hm, hrow, hB⟩

end Go.Proofs.Ytilhmlapbifbbaa
