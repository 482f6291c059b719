/- Walks: the law FilterOpen. -/
import Derived.Test.YtilhmlapbifbbaaGoes
import Derived.Test.YtilhmlapbifbbaaInts
namespace Go.Proofs.Ytilhmlapbifbbaa
open Go.RowKit Go.Sort

/-- A literal slice of spans, as the model builds it. -/
theorem SlSp.lits (w : World) (xs : List Spn) (e : TypeId) (h : xs.length ≤ 9223372036854775807) : SlSp (w.alloc (.cells (xs.flatMap spnC).toArray e)) (some ⟨w.heap.size, 0, none⟩) xs.length xs.length xs := by
  refine ⟨rfl, Nat.le_refl _, h, .inr ⟨w.heap.size, 0, rfl, by simp, fun i x hx j v hv => ?_⟩⟩
  rw [World.cell?_alloc_at _ _ _ _ rfl]
  have key : ∀ (l : List Spn) (i : Nat), l[i]? = some x → (l.flatMap spnC)[i * 3 + j]? = some v := by
    intro l
    induction l with
    | nil => intro i hi; cases hi
    | cons y l ih =>
      intro i hi
      have hj : j < 3 := by
        have := (List.getElem?_eq_some_iff.1 hv).1
        simpa [spnC] using this
      cases i with
      | zero =>
        simp at hi
        subst hi
        rw [List.flatMap_cons, List.getElem?_append_left (by simp [spnC]; omega)]
        simpa using hv
      | succ i =>
        rw [List.flatMap_cons, List.getElem?_append_right (by simp [spnC]; omega)]
        have := ih i (by simpa using hi)
        rw [← this]
        congr 1
        simp [spnC]; omega
  simpa using key xs i hx

set_option maxHeartbeats 400000 in
theorem config10_any (w : World) :
    Calls Try.prog 64 #[] w fun e w' => e = .returned (.agg #[.int .i64 0, .int .i64 1, .int .i64 3, .int .i64 1, .int .i64 1, .int .i64 8, .int .i64 8]) ∧ Below w.heap.size w w' := by
  go_enter Try.func64, Try.ntmps64
  go_wp2
  exact bodyPost_ret (v := .agg #[.int .i64 0, .int .i64 1, .int .i64 3, .int .i64 1, .int .i64 1, .int .i64 8, .int .i64 8]) (by simp [results, Try.results64, go_sem]) rfl ⟨rfl, (Below.refl _ _).alloc (Nat.le_refl _) _⟩

def wakeA : List Spn := [⟨0, 1, true⟩, ⟨4, 5, true⟩]
def wakeB : List Spn := [⟨0, 1, true⟩, ⟨3, 5, true⟩]
theorem wakeA_ks : openKs ⟨0, 1, 3, 1, 1, 8, 8⟩ wakeA = [0, 1] := by decide
theorem wakeA_e : openE ⟨0, 1, 3, 1, 1, 8, 8⟩ wakeA = 0 := by decide
theorem wakeB_ks : openKs ⟨0, 1, 3, 1, 1, 8, 8⟩ wakeB = [1] := by decide
theorem wakeB_e : openE ⟨0, 1, 3, 1, 1, 8, 8⟩ wakeB = 0 := by decide

set_option maxHeartbeats 400000 in
theorem wakes10_any (w : World) :
    Calls Try.prog 23 #[] w fun e w' => e = .returned (.bool true) ∧ Below w.heap.size w w' := by
  have HA1 := Lib.hid wakeA_ks
  have HA2 := Lib.hid wakeA_e
  have HB1 := Lib.hid wakeB_ks
  have HB2 := Lib.hid wakeB_e
  go_enter Try.func23, Try.ntmps23
  go_wp2_with fail
  refine (config10_any _).mono ?_
  rintro e w1 ⟨rfl, hb1⟩
  go_wp2_with fail
  refine (open_any ⟨0, 1, 3, 1, 1, 8, 8⟩ (some ⟨w1.heap.size, 0, none⟩) 2 2 wakeA _ (SlSp.lits w1 wakeA 50 (by decide))).mono ?_
  rintro e w2 ⟨v2, he, hown2, hb2⟩
  rw [HA2.out] at he
  rw [HA1.out] at hown2
  subst he
  obtain ⟨a2, k2, rfl, hs2⟩ := hown2.reads
  have hB2 : Below w.heap.size w w2 := hb1.trans ((((Below.refl _ _).alloc (Nat.le_refl _) _).trans (hb2.mono (by simp))).mono hb1.size)
  have Hs2 := Lib.hid hs2
  clear hs2 hown2 hb1 hb2
  go_wp2_with fail
  refine (config10_any _).mono ?_
  rintro e w3 ⟨rfl, hb3⟩
  go_wp2_with fail
  refine (open_any ⟨0, 1, 3, 1, 1, 8, 8⟩ (some ⟨w3.heap.size, 0, none⟩) 2 2 wakeB _ (SlSp.lits w3 wakeB 50 (by decide))).mono ?_
  rintro e w4 ⟨v4, he, hown4, hb4⟩
  rw [HB2.out] at he
  rw [HB1.out] at hown4
  subst he
  obtain ⟨a4, k4, rfl, hs4⟩ := hown4.reads
  have hB4 : Below w.heap.size w w4 := hB2.trans ((hb3.trans ((((Below.refl _ _).alloc (Nat.le_refl _) _).trans (hb4.mono (by simp))).mono hb3.size)).mono hB2.size)
  obtain ⟨b, off, rfl, hc⟩ := hs4.at0 (by decide)
  have g1 : w4.cell? ⟨b, off, none⟩ = some (.int .i64 1) := hc 0 (by decide)
  clear hc hs4 hown4 hb3 hb4 hB2 Hs2 HA1 HA2 HB1 HB2
  simp only [List.length_cons, List.length_nil, Nat.zero_add]
  go_wp2
  go_ret
  exact ⟨rfl, hB4⟩

theorem SlI.regrown {k : IntKind} {w : World} {a : Option Addr} {n c : Nat} {xs : List Int} (h : SlI k w a n c xs) (d : Nat) (os : Array Obj) : SlI k (grow (redrawn w d) os) a n c xs := h.below (below_regrown w d os) (Nat.le_refl _)
theorem SlR.regrown {α : Type} {f : α → List Value} {sz : Nat} {w : World} {a : Option Addr} {n c : Nat} {xs : List α} (h : SlR f sz w a n c xs) (d : Nat) (os : Array Obj) : SlR f sz (grow (redrawn w d) os) a n c xs := h.below (below_regrown w d os) (Nat.le_refl _)

theorem ints01_same (a b : Option Addr) (n c m d : Nat) (xs : List Int) (w : World) (hx : SlI .i64 w a n c xs) (hy : SlI .i64 w b m d xs) :
    Calls Try.prog 30 #[.slice a n c, .slice b m d] w fun e w' => e = .returned (.bool true) ∧ Below w.heap.size w w' :=
  (ints01_any a b n c m d xs xs w hx hy).mono fun e w' ⟨he, q, hq⟩ => ⟨by rw [he, decide_eq_true rfl], by rw [hq]; exact below_drewN (Below.refl _ _) _⟩

set_option maxHeartbeats 1000000 in
theorem filteropen_any (cf : Cfg) (a : Option Addr) (n c : Nat) (xs : List Spn) (k leave : Int) (w : World) (hx : SlSp w a n c xs) :
    Calls Try.prog 4 #[cfgV cf, .slice a n c, .int .i64 k, .int .i64 leave] w fun e w' => e = .returned (.bool true) ∧ Below w.heap.size w w' := by
  have hmax := hx.max
  have hle := hx.le
  have Hx := Lib.hid hx; clear hx
  obtain ⟨clear, climb, height, rise, run, cw, cd⟩ := cf
  show Calls Try.prog _ #[.agg #[.int .i64 clear, .int .i64 climb, .int .i64 height, .int .i64 rise, .int .i64 run, .int .i64 cw, .int .i64 cd], .slice a n c, .int .i64 k, .int .i64 leave] w _
  by_cases hn : 100 < n
  · have hn' : (100 : Int) < (n : Int) := by omega
    go_enter Try.func4, Try.ntmps4
    go_wp2_with fail
    refine (wakes10_any _).mono ?_
    rintro e w1 ⟨rfl, hb1⟩
    have hB1 : Below w.heap.size w w1 := ((Below.refl _ _).alloc (Nat.le_refl _) _).trans (hb1.mono (by simp))
    go_wp2
    go_ret
    exact ⟨rfl, hB1⟩
  · have hn' : ¬ (100 : Int) < (n : Int) := by omega
    obtain ⟨rI, hrI⟩ : ∃ r, r = roomI xs k := ⟨_, rfl⟩
    obtain ⟨rB, hrB⟩ : ∃ r, r = roomB xs k := ⟨_, rfl⟩
    obtain ⟨ft, hft⟩ : ∃ r, r = fitsI ⟨clear, climb, height, rise, run, cw, cd⟩ xs k := ⟨_, rfl⟩
    obtain ⟨oe, hoe⟩ : ∃ r, r = openE ⟨clear, climb, height, rise, run, cw, cd⟩ xs := ⟨_, rfl⟩
    obtain ⟨ks, hks⟩ : ∃ r, r = openKs ⟨clear, climb, height, rise, run, cw, cd⟩ xs := ⟨_, rfl⟩
    have HrI := Lib.hid hrI; have HrB := Lib.hid hrB; have Hft := Lib.hid hft; have Hoe := Lib.hid hoe; have Hks := Lib.hid hks
    clear hrI hrB hft hoe hks
    go_enter Try.func4, Try.ntmps4
    go_wp2_with fail
    refine (room_any a n c xs k _ (Hx.out.alloc _)).mono ?_
    rintro e w1 ⟨rfl, hb1⟩
    rw [← HrI.out, ← HrB.out]
    have hB1 : Below w.heap.size w w1 := ((Below.refl _ _).alloc (Nat.le_refl _) _).trans (hb1.mono (by simp))
    have HC1 : Hid (CfgAt w.heap.size ⟨clear, climb, height, rise, run, cw, cd⟩ w1) := (CfgAt.new ⟨clear, climb, height, rise, run, cw, cd⟩ w 32).below hb1 (by simp)
    have hs1 : w.heap.size + 1 ≤ w1.heap.size := by have := hb1.size; simp at this; omega
    clear hb1
    go_wp2_with fail
    refine (refroom_any a n c xs k _ (Hx.out.below hB1 (Nat.le_refl _))).mono ?_
    rintro e w2 ⟨rfl, hb2⟩
    rw [← HrI.out, ← HrB.out]
    have hB2 := hB1.trans (hb2.mono hB1.size)
    have HC2 : Hid (CfgAt w.heap.size ⟨clear, climb, height, rise, run, cw, cd⟩ w2) := HC1.out.below hb2 (by omega)
    have hs2 := hb2.size
    clear hb2 hB1 HC1
    have f0 := HC2.out 0 _ rfl
    have f1 := HC2.out 1 _ rfl
    have f2 := HC2.out 2 _ rfl
    have f3 := HC2.out 3 _ rfl
    have f4 := HC2.out 4 _ rfl
    have f5 := HC2.out 5 _ rfl
    have f6 := HC2.out 6 _ rfl
    simp only at f0 f1 f2 f3 f4 f5 f6
    go_wp2_with fail
    refine (open_any ⟨clear, climb, height, rise, run, cw, cd⟩ a n c xs _ (Hx.out.below hB2 (Nat.le_refl _))).mono ?_
    rintro e w3 ⟨v3, he, hown3, hb3⟩
    rw [← Hoe.out] at he
    rw [← Hks.out] at hown3
    subst he
    obtain ⟨a3, k3, rfl, hs3⟩ := hown3.reads
    have Hs3 := Lib.hid hs3
    have hB3 := hB2.trans (hb3.mono hB2.size)
    have HC3 : Hid (CfgAt w.heap.size ⟨clear, climb, height, rise, run, cw, cd⟩ w3) := HC2.out.below hb3 (by omega)
    have hss3 := hb3.size
    clear hb3 hB2 HC2 f0 f1 f2 f3 f4 f5 f6 hs3 hown3
    have f0 := HC3.out 0 _ rfl
    have f1 := HC3.out 1 _ rfl
    have f2 := HC3.out 2 _ rfl
    have f3 := HC3.out 3 _ rfl
    have f4 := HC3.out 4 _ rfl
    have f5 := HC3.out 5 _ rfl
    have f6 := HC3.out 6 _ rfl
    simp only at f0 f1 f2 f3 f4 f5 f6
    go_wp2_with fail
    refine (refopen_any ⟨clear, climb, height, rise, run, cw, cd⟩ a n c xs _ (Hx.out.below hB3 (Nat.le_refl _))).mono ?_
    rintro e w4 ⟨v4, he, hown4, hb4⟩
    rw [← Hoe.out] at he
    rw [← Hks.out] at hown4
    subst he
    obtain ⟨a4, k4, rfl, hs4⟩ := hown4.reads
    have Hs4 := Lib.hid hs4
    have Hs3' : Hid (SlI .i64 w4 a3 ks.length k3 ks) := Hs3.out.below hb4 (Nat.le_refl _)
    have hB4 := hB3.trans (hb4.mono hB3.size)
    have HC4 : Hid (CfgAt w.heap.size ⟨clear, climb, height, rise, run, cw, cd⟩ w4) := HC3.out.below hb4 (by omega)
    have Hx4 : Hid (SlSp w4 a n c xs) := Hx.out.below hB4 (Nat.le_refl _)
    clear hb4 hB3 HC3 f0 f1 f2 f3 f4 f5 f6 hs4 hown4 Hs3
    have f0 := fun d os => cell_regrown (HC4.out 0 _ rfl) d os
    have f1 := fun d os => cell_regrown (HC4.out 1 _ rfl) d os
    have f2 := fun d os => cell_regrown (HC4.out 2 _ rfl) d os
    have f3 := fun d os => cell_regrown (HC4.out 3 _ rfl) d os
    have f4 := fun d os => cell_regrown (HC4.out 4 _ rfl) d os
    have f5 := fun d os => cell_regrown (HC4.out 5 _ rfl) d os
    have f6 := fun d os => cell_regrown (HC4.out 6 _ rfl) d os
    simp only at f0 f1 f2 f3 f4 f5 f6
    have g1 := fun d os => fits_any ⟨clear, climb, height, rise, run, cw, cd⟩ a n c xs k (grow (redrawn w4 d) os) (Hx4.out.regrown d os)
    have g2 := fun d os => reffits_any ⟨clear, climb, height, rise, run, cw, cd⟩ a n c xs k (grow (redrawn w4 d) os) (Hx4.out.regrown d os)
    have g3 := fun d os => ints01_same a3 a4 _ k3 _ k4 ks (grow (redrawn w4 d) os) (Hs3'.out.regrown d os) (Hs4.out.regrown d os)
    have g4 := fun d os => goes_any ⟨clear, climb, height, rise, run, cw, cd⟩ a n c xs a4 ks.length k4 leave (grow (redrawn w4 d) os) (Hx4.out.regrown d os) (by rw [← openKs_each, ← Hks.out]; exact Hs4.out.regrown d os)
    rw [← Hft.out] at g1 g2
    have G1 := Lib.hid g1; have G2 := Lib.hid g2; have G3 := Lib.hid g3; have G4 := Lib.hid g4
    clear g1 g2 g3 g4
    go_wp2
    refine wp_region_quiet_below (by kernel_rfl) (by kernel_rfl) ?_
    repeat (go_big_quiet_step (first | (go_at_call 28; exact Calls.regrown_of (G1.out _ _)) | (go_at_call 29; exact Calls.regrown_of (G2.out _ _)) | (go_at_call 30; exact Calls.regrown_of (G3.out _ _)) | (go_at_call 31; exact Calls.regrown_of (G4.out _ _)) | (go_at_call 23; exact Calls.regrown_of (wakes10_any _))))
    refine wpQuiet_nil ?_
    rintro w' ⟨⟨dq, osq⟩, hw''⟩
    have hB5 : Below w.heap.size w w' := by rw [hw'']; exact hB4.trans ((below_regrown w4 dq osq).mono hB4.size)
    clear hw'' f0 f1 f2 f3 f4 f5 f6
    go_wp2
    go_ret
    exact ⟨ret_bool (by simp), hB5⟩

end Go.Proofs.Ytilhmlapbifbbaa
