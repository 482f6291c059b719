/- Walks: the same rows of numbers? -/
import Derived.Test.YtilhmlapbifbbaaTab
import Derived.Lib.QuietBelow
namespace Go.Proofs.Ytilhmlapbifbbaa
open Go.RowKit Go.Sort

theorem take_eq_succL {α : Type} {xs ys : List α} {k : Nat} {x y : α} (hx : xs[k]? = some x) (hy : ys[k]? = some y) (h : xs.take k = ys.take k) (he : x = y) : xs.take (k + 1) = ys.take (k + 1) := by
  rw [List.take_add_one, List.take_add_one, hx, hy, h, he]
theorem ne_of_at {α : Type} {xs ys : List α} {k : Nat} {x y : α} (hx : xs[k]? = some x) (hy : ys[k]? = some y) (he : x ≠ y) : xs ≠ ys := by
  rintro rfl
  rw [hx] at hy
  exact he (Option.some.inj hy)

set_option maxHeartbeats 400000 in
theorem rows_any (a b : Option Addr) (n c m d : Nat) (rs ss : List TRow) (w : World) (hx : SlT w a n c rs) (hy : SlT w b m d ss) :
    Calls Try.prog 40 #[.slice a n c, .slice b m d] w fun e w' => e = .returned (.bool (decide (tabOf rs = tabOf ss))) ∧ Below w.heap.size w w' := by
  have Hlx := Lib.hid hx.tlen
  have Hly := Lib.hid hy.tlen
  have hmx := hx.sl.max
  have hlx := hx.sl.le
  have hmy := hy.sl.max
  have hly := hy.sl.le
  have Hx := Lib.hid hx
  have Hy := Lib.hid hy
  clear hx hy
  by_cases hnm : n = m
  · subst hnm
    have q : ((n : Int) != (n : Int)) = false := by simp
    go_enter Try.func40, Try.ntmps40
    go_wp2
    go_loopw [4, 5] (fun r i wr => ∃ k : Nat, k ≤ n ∧ r = .bool false ∧ i = .int .i64 k ∧ Hid ((tabOf rs).take k = (tabOf ss).take k) ∧ Below w.heap.size w wr) (fun _ i _ => n - (intOf i).toNat)
    case atStart => exact ⟨0, Nat.zero_le _, rfl, rfl, by simp [Hid], Below.refl _ _⟩
    case round =>
      obtain ⟨k, hk, rfl, rfl, He, hBr⟩ := hrel
      by_cases hlt : k < n
      · obtain ⟨b1, o1, r1, rfl, hr1, c1, s1, t1⟩ := (Hx.out.below hBr (Nat.le_refl _)).row hlt
        obtain ⟨b2, o2, r2, rfl, hr2, c2, s2, t2⟩ := (Hy.out.below hBr (Nat.le_refl _)).row hlt
        have hltI : (k : Int) < (n : Int) := by omega
        have e1 := fun d os => cell_regrown c1 d os
        have e2 := fun d os => cell_regrown c2 d os
        have hg1 : (tabOf rs)[k]? = some r1.xs := by simp [tabOf, hr1]
        have hg2 : (tabOf ss)[k]? = some r2.xs := by simp [tabOf, hr2]
        have Hc : Hid (∀ d os, Calls Try.prog 48 #[.slice r1.a r1.n r1.c, .slice r2.a r2.n r2.c] (grow (redrawn wr d) os) fun e w' => e = .returned (.bool (decide (r1.xs = r2.xs))) ∧ Below (grow (redrawn wr d) os).heap.size (grow (redrawn wr d) os) w') := fun d os =>
          (ints32_any _ _ _ _ _ _ _ _ _ (s1.below (below_regrown wr d os) (Nat.le_refl _)) (s2.below (below_regrown wr d os) (Nat.le_refl _))).mono (fun _ _ h => ⟨h.1, by obtain ⟨_, j, rfl⟩ := h; exact ⟨rfl, rfl, rfl, Nat.le_refl _, fun _ _ => rfl⟩⟩)
        have Hg1 := Lib.hid hg1; have Hg2 := Lib.hid hg2
        clear c1 c2 s1 s2 t1 t2 hr1 hr2 hg1 hg2
        by_cases hxy : r1.xs = r2.xs
        · have Hr : Hid (decide (r1.xs = r2.xs) = true) := by show _ = _; simpa using hxy
          have Hxy := Lib.hid hxy
          clear hxy
          go_wp2
          refine wp_region_quiet_below (by kernel_rfl) (by kernel_rfl) ?_
          repeat (go_big_quiet_step (exact Calls.regrown_of ((Hc.out _ _).mono (fun _ _ h => ⟨by rw [h.1, Hr.out], h.2⟩))))
          refine wpQuiet_nil ?_
          rintro w' ⟨⟨dq, osq⟩, hw''⟩
          have hb2 : Below w.heap.size w w' := by rw [hw'']; exact hBr.trans ((below_regrown wr dq osq).mono hBr.size)
          clear hw'' e1 e2
          go_wp2
          go_roundw
          case rel => exact ⟨k + 1, by omega, rfl, by go_num, take_eq_succL Hg1.out Hg2.out He.out Hxy.out, hb2⟩
          case measure => simp [intOf]; omega
        · have Hr : Hid (decide (r1.xs = r2.xs) = false) := by show _ = _; simpa using hxy
          have Hd : Hid (decide (tabOf rs = tabOf ss) = false) := by show _ = _; simpa using ne_of_at Hg1.out Hg2.out hxy
          clear hxy
          go_wp2
          refine wp_region_quiet_below (by kernel_rfl) (by kernel_rfl) ?_
          repeat (go_big_quiet_step (exact Calls.regrown_of ((Hc.out _ _).mono (fun _ _ h => ⟨by rw [h.1, Hr.out], h.2⟩))))
          refine wpQuiet_nil ?_
          rintro w' ⟨⟨dq, osq⟩, hw''⟩
          have hb2 : Below w.heap.size w w' := by rw [hw'']; exact hBr.trans ((below_regrown wr dq osq).mono hBr.size)
          clear hw'' e1 e2
          go_wp2
          go_ret
          exact ⟨ret_bool Hd.out.symm, hb2⟩
      · obtain rfl : n = k := by omega
        have hltI : ¬ (n : Int) < (n : Int) := by omega
        have Hd : Hid (decide (tabOf rs = tabOf ss) = true) := by
          show _ = _
          have h1 := He.out
          rw [List.take_of_length_le (by rw [Hlx.out]; exact Nat.le_refl _), List.take_of_length_le (by rw [Hly.out]; exact Nat.le_refl _)] at h1
          simpa using h1
        clear hlt
        go_wp2
        go_ret
        exact ⟨ret_bool Hd.out.symm, hBr⟩
  · have q : ((n : Int) != (m : Int)) = true := by simp; omega
    have Hd : Hid (decide (tabOf rs = tabOf ss) = false) := by
      show _ = _
      have : tabOf rs ≠ tabOf ss := fun e => hnm (by rw [← Hlx.out, ← Hly.out, e])
      simpa using this
    clear hnm
    go_enter Try.func40, Try.ntmps40
    go_wp2
    go_ret
    exact ⟨ret_bool Hd.out.symm, Below.refl _ _⟩

end Go.Proofs.Ytilhmlapbifbbaa
