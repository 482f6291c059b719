/- Walks: CodeReadSoups. -/
import Derived.Test.YtilhmlapbifbbaaRe3
import Derived.Test.YtilhmlapbifbbaaSoV
import Derived.Test.YtilhmlapbifbbaaNumL
namespace Go.Proofs.Ytilhmlapbifbbaa
open Go.RowKit Go.Sort

set_option maxRecDepth 100000 in
set_option maxHeartbeats 4000000 in
theorem codereadsoups_any (a : Option Addr) (n c : Nat) (xs : List Int) (w : World) (hx : SlI .u8 w a n c xs) (hb : ∀ x ∈ xs, 0 ≤ x ∧ x ≤ 255) (hfar : n = 0 ∨ ∀ ad, a = some ad → ad.block < w.heap.size) :
    Calls Try.prog 12 #[.slice a n c] w fun e w' => e = .returned (.bool true) ∧ Below w.heap.size w w' := by
  by_cases hm : 20000 < n ∧ n ≤ 131072
  · have h1 : (20000 : Int) < (n : Int) := by omega
    have h2 : (n : Int) ≤ (131072 : Int) := by omega
    go_enter Try.func12, Try.ntmps12
    go_wp2_with fail
    refine (wakes20_any _).mono ?_
    rintro e w1 ⟨rfl, hb1⟩
    go_wp2
    go_ret
    exact ⟨rfl, hb1⟩
  have H1 := Lib.hid (readsoup_any w a n c xs hx hb hfar)
  have H2 := Lib.hid (fun (W : World) (hW : Below w.heap.size w W) => refreadsoup_any W a n c xs (hx.below hW (Nat.le_refl _)) hb (hfar.imp id fun q ad ha => Nat.lt_of_lt_of_le (q ad ha) hW.size))
  obtain ⟨⟨⟨c0, c1, c2, c3, c4, c5, c6⟩, s, k, er⟩, hR⟩ : ∃ R, R = rdSoup xs := ⟨_, rfl⟩
  rw [← hR] at H1 H2
  clear hR
  have tail : Hid (∀ (I1 : (20000 : Int) < (n : Int) → ¬ (n : Int) ≤ (131072 : Int)), True) := fun _ => trivial
  clear tail
  have HX := Lib.hid hx
  clear hx hfar
  by_cases h1 : 20000 < n
  all_goals
    first
      | (have i1 : (20000 : Int) < (n : Int) := by omega
         have i2 : ¬ (n : Int) ≤ (131072 : Int) := by omega)
      | have i1 : ¬ (20000 : Int) < (n : Int) := by omega
    clear hm h1
    go_enter Try.func12, Try.ntmps12
    go_wp2_with fail
    refine H1.out.mono ?_
    unfold rdPost
    rintro e w1 ⟨⟨pa, pn, pc⟩, ⟨qa, qn, qc⟩, ⟨ra, rn, rc⟩, rfl, hs1, hb1⟩
    unfold cfgV soupV SHead.v
    have hbW : Below w.heap.size w ((w1.alloc (.cells #[.int .i64 c0, .int .i64 c1, .int .i64 c2, .int .i64 c3, .int .i64 c4, .int .i64 c5, .int .i64 c6] 32)).alloc (.cells #[.slice pa pn pc, .slice qa qn qc, .slice ra rn rc] 71)) := (hb1.alloc hb1.size _).alloc (by simp; have := hb1.size; omega) _
    have hs1' := hs1.below (w' := ((w1.alloc (.cells #[.int .i64 c0, .int .i64 c1, .int .i64 c2, .int .i64 c3, .int .i64 c4, .int .i64 c5, .int .i64 c6] 32)).alloc (.cells #[.slice pa pn pc, .slice qa qn qc, .slice ra rn rc] 71))) (((Below.refl _ _).alloc (Nat.le_refl _) _).alloc (by simp) _)
    have hA : ((w1.alloc (.cells #[.int .i64 c0, .int .i64 c1, .int .i64 c2, .int .i64 c3, .int .i64 c4, .int .i64 c5, .int .i64 c6] 32)).alloc (.cells #[.slice pa pn pc, .slice qa qn qc, .slice ra rn rc] 71)).heap[w1.heap.size]? = some (.cells #[.int .i64 c0, .int .i64 c1, .int .i64 c2, .int .i64 c3, .int .i64 c4, .int .i64 c5, .int .i64 c6] 32 (0, 0)) := rd_past _ (rd_at _ rfl)
    have hB : ((w1.alloc (.cells #[.int .i64 c0, .int .i64 c1, .int .i64 c2, .int .i64 c3, .int .i64 c4, .int .i64 c5, .int .i64 c6] 32)).alloc (.cells #[.slice pa pn pc, .slice qa qn qc, .slice ra rn rc] 71)).heap[w1.heap.size + 1]? = some (.cells #[.slice pa pn pc, .slice qa qn qc, .slice ra rn rc] 71 (0, 0)) := rd_at _ (by simp)
    go_wp2_with fail
    refine (H2.out _ hbW).mono ?_
    unfold rdPost
    rintro e w2 ⟨⟨pa', pn', pc'⟩, ⟨qa', qn', qc'⟩, ⟨ra', rn', rc'⟩, rfl, hs2, hb2⟩
    unfold cfgV soupV SHead.v
    have hbX : Below w2.heap.size w2 ((w2.alloc (.cells #[.int .i64 c0, .int .i64 c1, .int .i64 c2, .int .i64 c3, .int .i64 c4, .int .i64 c5, .int .i64 c6] 32)).alloc (.cells #[.slice pa' pn' pc', .slice qa' qn' qc', .slice ra' rn' rc'] 71)) := ((Below.refl _ _).alloc (Nat.le_refl _) _).alloc (by simp) _
    have hb3 := below_step hb2 hbX
    have hA3 := (hb3.block _ (Array.getElem?_eq_some_iff.1 hA).1).trans hA
    have hB3 := (hb3.block _ (Array.getElem?_eq_some_iff.1 hB).1).trans hB
    have hC3 : ((w2.alloc (.cells #[.int .i64 c0, .int .i64 c1, .int .i64 c2, .int .i64 c3, .int .i64 c4, .int .i64 c5, .int .i64 c6] 32)).alloc (.cells #[.slice pa' pn' pc', .slice qa' qn' qc', .slice ra' rn' rc'] 71)).heap[w2.heap.size]? = some (.cells #[.int .i64 c0, .int .i64 c1, .int .i64 c2, .int .i64 c3, .int .i64 c4, .int .i64 c5, .int .i64 c6] 32 (0, 0)) := rd_past _ (rd_at _ rfl)
    have hD3 : ((w2.alloc (.cells #[.int .i64 c0, .int .i64 c1, .int .i64 c2, .int .i64 c3, .int .i64 c4, .int .i64 c5, .int .i64 c6] 32)).alloc (.cells #[.slice pa' pn' pc', .slice qa' qn' qc', .slice ra' rn' rc'] 71)).heap[w2.heap.size + 1]? = some (.cells #[.slice pa' pn' pc', .slice qa' qn' qc', .slice ra' rn' rc'] 71 (0, 0)) := rd_at _ (by simp)
    have SM := same_any _ _ _ _ _ _ s s _ (hs1'.below hb3) (hs2.below hbX)
    rw [decide_eq_true rfl] at SM
    unfold soupV SHead.v at SM
    simp only at SM
    have a0 := cell_heap (k := 0) (v := .int .i64 c0) hA3 rfl
    have b0 := cell_heap (k := 0) (v := .int .i64 c0) hC3 rfl
    have a1 := cell_heap (k := 1) (v := .int .i64 c1) hA3 rfl
    have b1 := cell_heap (k := 1) (v := .int .i64 c1) hC3 rfl
    have a2 := cell_heap (k := 2) (v := .int .i64 c2) hA3 rfl
    have b2 := cell_heap (k := 2) (v := .int .i64 c2) hC3 rfl
    have a3 := cell_heap (k := 3) (v := .int .i64 c3) hA3 rfl
    have b3 := cell_heap (k := 3) (v := .int .i64 c3) hC3 rfl
    have a4 := cell_heap (k := 4) (v := .int .i64 c4) hA3 rfl
    have b4 := cell_heap (k := 4) (v := .int .i64 c4) hC3 rfl
    have a5 := cell_heap (k := 5) (v := .int .i64 c5) hA3 rfl
    have b5 := cell_heap (k := 5) (v := .int .i64 c5) hC3 rfl
    have a6 := cell_heap (k := 6) (v := .int .i64 c6) hA3 rfl
    have b6 := cell_heap (k := 6) (v := .int .i64 c6) hC3 rfl
    have d0 := cell_heap (k := 0) (v := .slice pa pn pc) hB3 rfl
    have d1 := cell_heap (k := 1) (v := .slice qa qn qc) hB3 rfl
    have d2 := cell_heap (k := 2) (v := .slice ra rn rc) hB3 rfl
    have f0 := cell_heap (k := 0) (v := .slice pa' pn' pc') hD3 rfl
    have f1 := cell_heap (k := 1) (v := .slice qa' qn' qc') hD3 rfl
    have f2 := cell_heap (k := 2) (v := .slice ra' rn' rc') hD3 rfl
    have hbY := below_step hbW hb3
    clear hA hB hA3 hB3 hC3 hD3 hs1 hs1' hs2 hb2 hbX hb3 hbW
    go_wp2_with fail
    refine SM.mono ?_
    rintro e w4 ⟨rfl, hb4⟩
    have hbZ := below_step hbY hb4
    clear SM hb4 hbY
    go_wp2_with fail
    refine (wakes20_any _).mono ?_
    rintro e w5 ⟨rfl, hb5⟩
    go_wp2
    go_ret
    exact ⟨rfl, below_step hbZ hb5⟩

end Go.Proofs.Ytilhmlapbifbbaa
