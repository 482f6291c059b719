/- Walks: slices.Index of rows of twelve truths. -/
import Derived.Test.YtilhmlapbifbbaaBMat
namespace Go.Proofs.Ytilhmlapbifbbaa
open Go.RowKit Go.Shelf Go.Sort

theorem idxB_upto {f : Nat → Nat → Bool} {k a : Nat} (h : ∀ j, j < k → reqv f j a = false) (h2 : reqv f k a = false) : ∀ j, j < k + 1 → reqv f j a = false := fun j hj => by
  by_cases e : j = k
  · rw [e]; exact h2
  · exact h j (by omega)

theorem upon_load12 {o : Oper} {a : Act} {x : Operand} (h : o.op = .load 104 x) {b off : Nat} (hx : a.eval x = .pointer (some ⟨b, off, none⟩)) {cs : List Value} (hl : cs.length = 12) {w : World} (hr : w.rangeAt b off cs) :
    (execOp a.eval o).run Try.prog w = .ok (.value (.agg cs.toArray)) w := by
  unfold execOp
  simp only [h, hx, Sem.run_bind, load12 hr hl, Result.andThen_ok, Sem.run_pure]
theorem upon_eq12 {o : Oper} {a : Act} {x y : Operand} {t : TypeId} (h : o.op = .binOp .eql 104 x y t) {f : Nat → Nat → Bool} {i j : Nat} (hx : a.eval x = .agg (bRow f i).toArray) (hy : a.eval y = .agg (bRow f j).toArray) {w : World} :
    (execOp a.eval o).run Try.prog w = .ok (.value (.bool (reqv f i j))) w := by
  have hm : Try.prog.eqGuardType Try.prog.depth 104 = false := by kernel_rfl
  unfold execOp
  simp only [h, hx, hy, Sem.run_bind, run_eqGuard_agg w .eql 104 x y _ _ hm, Result.andThen_ok, run_eql_struct, eq12, Sem.run_pure]
theorem quiet_load12 {C : World → Prop} {K : Act → Prop} {o : Oper} {a : Act} (x : Operand) (h : o.op = .load 104 x) (b off : Nat) (hx : a.eval x = .pointer (some ⟨b, off, none⟩)) (cs : List Value) (hl : cs.length = 12) (hC : ∀ w, C w → w.rangeAt b off cs)
    (hk : K (a.put o.dst (.agg cs.toArray))) : o.quiet Try.prog a C K :=
  ⟨_, fun w hw => by unfold Oper.quietAt; rw [upon_load12 h hx hl (hC w hw)]; exact ⟨rfl, rfl⟩, hk⟩
theorem quiet_eq12 {C : World → Prop} {K : Act → Prop} {o : Oper} {a : Act} (x y : Operand) {t : TypeId} (h : o.op = .binOp .eql 104 x y t) (f : Nat → Nat → Bool) (i j : Nat) (hx : a.eval x = .agg (bRow f i).toArray) (hy : a.eval y = .agg (bRow f j).toArray)
    (hk : K (a.put o.dst (.bool (reqv f i j)))) : o.quiet Try.prog a C K :=
  ⟨_, fun w _ => by unfold Oper.quietAt; rw [upon_eq12 h hx hy]; exact ⟨rfl, rfl⟩, hk⟩
theorem quietIn_load12 {F : Fence} {n : Nat} {C : World → Prop} {K : Act → Prop} {o : Oper} {a : Act} (x : Operand) (h : o.op = .load 104 x) (b off : Nat) (hx : a.eval x = .pointer (some ⟨b, off, none⟩)) (cs : List Value) (hl : cs.length = 12) (hC : ∀ w, C w → w.rangeAt b off cs)
    (hk : K (a.put o.dst (.agg cs.toArray))) : o.quietIn F n Try.prog a C K :=
  ⟨_, fun w hw => by unfold Oper.quietAtIn; rw [upon_load12 h hx hl (hC w hw)]; exact ⟨rfl, rfl⟩, hk⟩
theorem quietIn_eq12 {F : Fence} {n : Nat} {C : World → Prop} {K : Act → Prop} {o : Oper} {a : Act} (x y : Operand) {t : TypeId} (h : o.op = .binOp .eql 104 x y t) (f : Nat → Nat → Bool) (i j : Nat) (hx : a.eval x = .agg (bRow f i).toArray) (hy : a.eval y = .agg (bRow f j).toArray)
    (hk : K (a.put o.dst (.bool (reqv f i j)))) : o.quietIn F n Try.prog a C K :=
  ⟨_, fun w _ => by unfold Oper.quietAtIn; rw [upon_eq12 h hx hy]; exact ⟨rfl, rfl⟩, hk⟩

set_option maxRecDepth 100000 in
set_option maxHeartbeats 1000000 in
theorem idxB_any (H g n c a : Nat) (f : Nat → Nat → Bool) (w : World) (hx : BMat H w g n f) (ha : a < n) (hn : n ≤ 12) (hc : n ≤ c) (hm : c ≤ 9223372036854775807) :
    Calls Try.prog 76 #[.slice (some ⟨g, 0, none⟩) n c, .agg (bRow f a).toArray] w fun e w' => e = .returned (.int .i64 (idxB f n a)) ∧ Below w.heap.size w w' := by
  have Hx := Lib.hid hx; clear hx
  go_enter Try.func76, Try.ntmps76
  go_wp2
  have hR0 : (w.alloc (.cells (bRow f a).toArray 104)).rangeAt w.heap.size 0 (bRow f a) := fun j v hv => by
    rw [Nat.zero_add]
    rw [World.cell?_alloc_at _ _ _ _ (by simp)]
    simpa using hv
  have hx0 := Hx.out.alloc (.cells (bRow f a).toArray 104)
  have hB0 : Below w.heap.size w (w.alloc (.cells (bRow f a).toArray 104)) := (Below.refl _ _).alloc (Nat.le_refl _) _
  clear Hx
  go_loopw [8] (fun i wr => ∃ k : Nat, i = .int .i64 k ∧ k ≤ n ∧ Hid (∀ j, j < k → reqv f j a = false) ∧ Hid (BMat H wr g n f) ∧ Hid (wr.rangeAt w.heap.size 0 (bRow f a)) ∧ Below w.heap.size w wr) (fun i _ => n - (intOf i).toNat)
  case atStart => exact ⟨0, rfl, by omega, fun j hj => by omega, hx0, hR0, hB0⟩
  case round =>
    clear hx0 hR0 hB0
    obtain ⟨k, rfl, hk, Hs, Hx, Hr, hB⟩ := hrel
    by_cases hlt : k < n
    · have hltI : (k : Int) < (n : Int) := by omega
      have l1 : ∀ w', (∃ p : Regrown, w' = grow (redrawn wr p.d) p.os) → w'.rangeAt w.heap.size 0 (bRow f a) := by rintro _ ⟨p, rfl⟩; exact range_regrown Hr.out _ _
      have l2 : ∀ w', (∃ p : Regrown, w' = grow (redrawn wr p.d) p.os) → w'.rangeAt g (k * 12) (bRow f k) := by rintro _ ⟨p, rfl⟩; exact range_regrown (Hx.out.range hlt) _ _
      obtain ⟨r, hr⟩ : ∃ r, r = reqv f a k := ⟨_, rfl⟩
      go_wp2
      refine wp_region_quiet_below (by kernel_rfl) (by kernel_rfl) ?_
      go_big_quiet_want
      refine quiet_load12 (.tmp 3) rfl w.heap.size 0 rfl (bRow f a) (bRow_len _ _) l1 ?_
      go_big_quiet_on
      go_simp
      go_big_quiet_step (fail)
      go_big_quiet_step (fail)
      go_big_quiet_step (fail)
      go_big_quiet_want
      refine quiet_load12 (.tmp 14) rfl g (k * 12) rfl (bRow f k) (bRow_len _ _) l2 ?_
      go_big_quiet_on
      go_simp
      go_big_quiet_want
      refine quiet_eq12 (.tmp 11) (.tmp 15) rfl f a k rfl rfl ?_
      go_big_quiet_on
      go_simp
      rw [← hr]
      refine wpQuiet_nil ?_
      rintro ⟨d, os⟩
      obtain ⟨w', hw'⟩ : ∃ w', w' = grow (redrawn wr d) os := ⟨_, rfl⟩
      simp only
      rw [← hw']
      have hB' : Below w.heap.size w w' := by rw [hw']; exact hB.trans ((below_regrown wr d os).mono hB.size)
      have hx' : Hid (BMat H w' g n f) := by rw [hw']; exact Hx.out.below (below_regrown wr d os) (Nat.le_refl _)
      have hr' : Hid (w'.rangeAt w.heap.size 0 (bRow f a)) := by rw [hw']; exact range_regrown Hr.out d os
      have Hq := Lib.hid hr
      clear hw' l1 l2 hr
      cases r with
      | true =>
        have Hf : Hid (idxB f n a = k) := idxB_found hlt Hs.out (reqv_symm Hq.out.symm)
        go_wp2
        go_ret
        exact ⟨ret_int (by rw [Hf.out]), hB'⟩
      | false =>
        have Hf : Hid (reqv f k a = false) := by
          show _ = _
          cases e : reqv f k a with
          | false => rfl
          | true => have := reqv_symm e; rw [← Hq.out] at this; cases this
        go_wp2
        go_roundw
        case rel => exact ⟨k + 1, by go_num, by omega, idxB_upto Hs.out Hf.out, hx', hr', hB'⟩
        case measure => simp [intOf]; omega
    · exfalso
      have h1 := Hs.out a (by omega)
      rw [reqv_refl] at h1
      cases h1

end Go.Proofs.Ytilhmlapbifbbaa
