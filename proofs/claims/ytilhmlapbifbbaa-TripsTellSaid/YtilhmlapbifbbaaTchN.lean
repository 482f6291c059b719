/- Walks: trips.Changed, whole. -/
import Derived.Test.YtilhmlapbifbbaaTch
namespace Go.Proofs.Ytilhmlapbifbbaa
open Go.RowKit Go.Shelf Go.Sort
attribute [local go_sem] Oper.semAt_some

set_option maxRecDepth 100000 in
set_option maxHeartbeats 4000000 in
theorem changed_no1 (a a2 : Option Addr) (n c n2 c2 : Nat) (rs ss : List TRow) (w : World) (hx : SlT w a n c rs) (hy : SlT w a2 n2 c2 ss) (hm : mayT (tabOf rs) = false) :
    Calls Try.prog 46 #[.slice a n c, .slice a2 n2 c2] w fun e w' => e = .returned (.tuple #[.slice none 0 0, .int .i64 2]) ∧ Below w.heap.size w w' := by
  have hmax := hx.sl.max
  have hle := hx.sl.le
  have hmax2 := hy.sl.max
  have hle2 := hy.sl.le
  have Hx := Lib.hid hx
  have Hy := Lib.hid hy
  clear hx hy
  have Hm := Lib.hid hm
  clear hm
  refine (callsIn_wide (n := 6)).1 ?_
  refine callsIn_of_wp_marks Try.func46 rfl trivial ?_ rfl
  simp only [Try.ntmps46, List.size_toArray, List.length_cons, List.length_nil, Nat.reduceAdd, Nat.reduceSub, Array.replicate_succ, Array.replicate_zero, List.push_toArray, List.append_toArray, List.nil_append, List.cons_append]
  gi_wp2_with fail
  refine ⟨trivial, ?_⟩
  have hb0 : Below w.heap.size w (((w.alloc (.cells #[.slice a n c] 52)).alloc (.cells #[.slice a2 n2 c2] 52)).alloc (.cells #[.slice none 0 0] 61)) := (((Below.refl _ _).alloc (Nat.le_refl _) _).alloc (by simp) _).alloc (by simp; omega) _
  have bA := ((Boxed.new w 52 (.slice a n c)).alloc (.cells #[.slice a2 n2 c2] 52)).alloc (.cells #[.slice none 0 0] 61)
  have bB := (Boxed.new (w.alloc (.cells #[.slice a n c] 52)) 52 (.slice a2 n2 c2)).alloc (.cells #[.slice none 0 0] 61)
  have bO := Boxed.new ((w.alloc (.cells #[.slice a n c] 52)).alloc (.cells #[.slice a2 n2 c2] 52)) 61 (.slice none 0 0)
  simp only [World.size_alloc] at bB bO
  obtain ⟨w1, hw1⟩ : ∃ w1, w1 = (((w.alloc (.cells #[.slice a n c] 52)).alloc (.cells #[.slice a2 n2 c2] 52)).alloc (.cells #[.slice none 0 0] 61)) := ⟨_, rfl⟩
  have hs1 : w1.heap.size = w.heap.size + 1 + 1 + 1 := by rw [hw1]; simp
  rw [← hw1] at bA bB bO hb0 ⊢
  clear hw1
  obtain ⟨p2, hp2⟩ : ∃ p2, p2 = w.heap.size + 1 + 1 := ⟨_, rfl⟩
  rw [← hp2] at bO hs1 ⊢
  obtain ⟨p1, hp1⟩ : ∃ p1, p1 = w.heap.size + 1 := ⟨_, rfl⟩
  rw [← hp1] at bB hp2 ⊢
  have hpa : w.heap.size < p1 := by omega
  have hpb : p1 < p2 := by omega
  clear hp1 hp2
  gi_at_call 38
  refine (callsIn_wide.2 (may_tab a n c rs _ (Hx.out.below hb0 (Nat.le_refl _)))).mono ?_
  rw [Hm.out]
  rintro e w2 ⟨rfl, hb2⟩
  have bA2 := (hb2.block _ bA.lt).trans bA
  have bB2 := (hb2.block _ bB.lt).trans bB
  have bO2 := (hb2.block _ bO.lt).trans bO
  have hb02 := hb0.trans (hb2.mono hb0.size)
  have hs2 := hb2.size
  have cA2 := Boxed.cell bA2
  have cB2 := Boxed.cell bB2
  have cO2 := Boxed.cell bO2
  have fO2 := Boxed.frozen bO2
  clear bA bB bO hb0 hb2
  have bOx : Boxed w2 p2 61 (.slice none 0 0) := bO2
  gi_wp2_with fail
  refine ⟨trivial, ?_⟩
  gi_wp2
  have hfin := hb02.setCell (p := ⟨p2, 0, none⟩) (by show w.heap.size ≤ p2; omega) (.slice none 0 0)
  refine ⟨.tuple #[.slice none 0 0, .int .i64 2], ?_, rfl, hfin⟩
  have hcell : (w2.setCell ⟨p2, 0, none⟩ (.slice none 0 0)).cell? ⟨p2, 0, none⟩ = some (.slice none 0 0) := (bOx.set (.slice none 0 0)).cell
  simp [results, Try.f46, go_sem, hcell]

set_option maxRecDepth 100000 in
set_option maxHeartbeats 4000000 in
theorem changed_no2 (a a2 : Option Addr) (n c n2 c2 : Nat) (rs ss : List TRow) (w : World) (hx : SlT w a n c rs) (hy : SlT w a2 n2 c2 ss) (hm : mayT (tabOf rs) = true) (hm2 : mayT (tabOf ss) = false) :
    Calls Try.prog 46 #[.slice a n c, .slice a2 n2 c2] w fun e w' => e = .returned (.tuple #[.slice none 0 0, .int .i64 2]) ∧ Below w.heap.size w w' := by
  have hmax := hx.sl.max
  have hle := hx.sl.le
  have hmax2 := hy.sl.max
  have hle2 := hy.sl.le
  have Hx := Lib.hid hx
  have Hy := Lib.hid hy
  clear hx hy
  have Hm := Lib.hid hm
  have Hm2 := Lib.hid hm2
  clear hm hm2
  refine (callsIn_wide (n := 6)).1 ?_
  refine callsIn_of_wp_marks Try.func46 rfl trivial ?_ rfl
  simp only [Try.ntmps46, List.size_toArray, List.length_cons, List.length_nil, Nat.reduceAdd, Nat.reduceSub, Array.replicate_succ, Array.replicate_zero, List.push_toArray, List.append_toArray, List.nil_append, List.cons_append]
  gi_wp2_with fail
  refine ⟨trivial, ?_⟩
  have hb0 : Below w.heap.size w (((w.alloc (.cells #[.slice a n c] 52)).alloc (.cells #[.slice a2 n2 c2] 52)).alloc (.cells #[.slice none 0 0] 61)) := (((Below.refl _ _).alloc (Nat.le_refl _) _).alloc (by simp) _).alloc (by simp; omega) _
  have bA := ((Boxed.new w 52 (.slice a n c)).alloc (.cells #[.slice a2 n2 c2] 52)).alloc (.cells #[.slice none 0 0] 61)
  have bB := (Boxed.new (w.alloc (.cells #[.slice a n c] 52)) 52 (.slice a2 n2 c2)).alloc (.cells #[.slice none 0 0] 61)
  have bO := Boxed.new ((w.alloc (.cells #[.slice a n c] 52)).alloc (.cells #[.slice a2 n2 c2] 52)) 61 (.slice none 0 0)
  simp only [World.size_alloc] at bB bO
  obtain ⟨w1, hw1⟩ : ∃ w1, w1 = (((w.alloc (.cells #[.slice a n c] 52)).alloc (.cells #[.slice a2 n2 c2] 52)).alloc (.cells #[.slice none 0 0] 61)) := ⟨_, rfl⟩
  have hs1 : w1.heap.size = w.heap.size + 1 + 1 + 1 := by rw [hw1]; simp
  rw [← hw1] at bA bB bO hb0 ⊢
  clear hw1
  obtain ⟨p2, hp2⟩ : ∃ p2, p2 = w.heap.size + 1 + 1 := ⟨_, rfl⟩
  rw [← hp2] at bO hs1 ⊢
  obtain ⟨p1, hp1⟩ : ∃ p1, p1 = w.heap.size + 1 := ⟨_, rfl⟩
  rw [← hp1] at bB hp2 ⊢
  have hpa : w.heap.size < p1 := by omega
  have hpb : p1 < p2 := by omega
  clear hp1 hp2
  gi_at_call 38
  refine (callsIn_wide.2 (may_tab a n c rs _ (Hx.out.below hb0 (Nat.le_refl _)))).mono ?_
  rw [Hm.out]
  rintro e w2 ⟨rfl, hb2⟩
  have bA2 := (hb2.block _ bA.lt).trans bA
  have bB2 := (hb2.block _ bB.lt).trans bB
  have bO2 := (hb2.block _ bO.lt).trans bO
  have hb02 := hb0.trans (hb2.mono hb0.size)
  have hs2 := hb2.size
  have cA2 := Boxed.cell bA2
  have cB2 := Boxed.cell bB2
  have cO2 := Boxed.cell bO2
  have fO2 := Boxed.frozen bO2
  clear bA bB bO hb0 hb2
  gi_wp2_with fail
  refine ⟨trivial, ?_⟩
  gi_at_call 38
  refine (callsIn_wide.2 (may_tab a2 n2 c2 ss _ (Hy.out.below hb02 (Nat.le_refl _)))).mono ?_
  rw [Hm2.out]
  rintro e w3 ⟨rfl, hb3⟩
  have cA3 := Boxed.cell ((hb3.block _ (Boxed.lt bA2)).trans bA2)
  have cB3 := Boxed.cell ((hb3.block _ (Boxed.lt bB2)).trans bB2)
  have cO3 := Boxed.cell ((hb3.block _ (Boxed.lt bO2)).trans bO2)
  have fO3 := Boxed.frozen ((hb3.block _ (Boxed.lt bO2)).trans bO2)
  have bOx : Boxed w3 p2 61 (.slice none 0 0) := (hb3.block _ (Boxed.lt bO2)).trans bO2
  have hb03 := hb02.trans (hb3.mono hb02.size)
  clear bA2 bB2 bO2 hb02 hb3 cA2 cB2 cO2 fO2
  gi_wp2
  have hfin := hb03.setCell (p := ⟨p2, 0, none⟩) (by show w.heap.size ≤ p2; omega) (.slice none 0 0)
  refine ⟨.tuple #[.slice none 0 0, .int .i64 2], ?_, rfl, hfin⟩
  have hcell : (w3.setCell ⟨p2, 0, none⟩ (.slice none 0 0)).cell? ⟨p2, 0, none⟩ = some (.slice none 0 0) := (bOx.set (.slice none 0 0)).cell
  simp [results, Try.f46, go_sem, hcell]

set_option maxRecDepth 100000 in
set_option maxHeartbeats 4000000 in
theorem changed_no3 (a a2 : Option Addr) (n c n2 c2 : Nat) (rs ss : List TRow) (w : World) (hx : SlT w a n c rs) (hy : SlT w a2 n2 c2 ss) (hm : mayT (tabOf rs) = true) (hm2 : mayT (tabOf ss) = true) (hne : n ≠ n2) :
    Calls Try.prog 46 #[.slice a n c, .slice a2 n2 c2] w fun e w' => e = .returned (.tuple #[.slice none 0 0, .int .i64 2]) ∧ Below w.heap.size w w' := by
  have hmax := hx.sl.max
  have hle := hx.sl.le
  have hmax2 := hy.sl.max
  have hle2 := hy.sl.le
  have Hx := Lib.hid hx
  have Hy := Lib.hid hy
  clear hx hy
  have Hm := Lib.hid hm
  have Hm2 := Lib.hid hm2
  have q0 : ((n : Int) != (n2 : Int)) = true := by simp; omega
  clear hm hm2
  refine (callsIn_wide (n := 6)).1 ?_
  refine callsIn_of_wp_marks Try.func46 rfl trivial ?_ rfl
  simp only [Try.ntmps46, List.size_toArray, List.length_cons, List.length_nil, Nat.reduceAdd, Nat.reduceSub, Array.replicate_succ, Array.replicate_zero, List.push_toArray, List.append_toArray, List.nil_append, List.cons_append]
  gi_wp2_with fail
  refine ⟨trivial, ?_⟩
  have hb0 : Below w.heap.size w (((w.alloc (.cells #[.slice a n c] 52)).alloc (.cells #[.slice a2 n2 c2] 52)).alloc (.cells #[.slice none 0 0] 61)) := (((Below.refl _ _).alloc (Nat.le_refl _) _).alloc (by simp) _).alloc (by simp; omega) _
  have bA := ((Boxed.new w 52 (.slice a n c)).alloc (.cells #[.slice a2 n2 c2] 52)).alloc (.cells #[.slice none 0 0] 61)
  have bB := (Boxed.new (w.alloc (.cells #[.slice a n c] 52)) 52 (.slice a2 n2 c2)).alloc (.cells #[.slice none 0 0] 61)
  have bO := Boxed.new ((w.alloc (.cells #[.slice a n c] 52)).alloc (.cells #[.slice a2 n2 c2] 52)) 61 (.slice none 0 0)
  simp only [World.size_alloc] at bB bO
  obtain ⟨w1, hw1⟩ : ∃ w1, w1 = (((w.alloc (.cells #[.slice a n c] 52)).alloc (.cells #[.slice a2 n2 c2] 52)).alloc (.cells #[.slice none 0 0] 61)) := ⟨_, rfl⟩
  have hs1 : w1.heap.size = w.heap.size + 1 + 1 + 1 := by rw [hw1]; simp
  rw [← hw1] at bA bB bO hb0 ⊢
  clear hw1
  obtain ⟨p2, hp2⟩ : ∃ p2, p2 = w.heap.size + 1 + 1 := ⟨_, rfl⟩
  rw [← hp2] at bO hs1 ⊢
  obtain ⟨p1, hp1⟩ : ∃ p1, p1 = w.heap.size + 1 := ⟨_, rfl⟩
  rw [← hp1] at bB hp2 ⊢
  have hpa : w.heap.size < p1 := by omega
  have hpb : p1 < p2 := by omega
  clear hp1 hp2
  gi_at_call 38
  refine (callsIn_wide.2 (may_tab a n c rs _ (Hx.out.below hb0 (Nat.le_refl _)))).mono ?_
  rw [Hm.out]
  rintro e w2 ⟨rfl, hb2⟩
  have bA2 := (hb2.block _ bA.lt).trans bA
  have bB2 := (hb2.block _ bB.lt).trans bB
  have bO2 := (hb2.block _ bO.lt).trans bO
  have hb02 := hb0.trans (hb2.mono hb0.size)
  have hs2 := hb2.size
  have cA2 := Boxed.cell bA2
  have cB2 := Boxed.cell bB2
  have cO2 := Boxed.cell bO2
  have fO2 := Boxed.frozen bO2
  clear bA bB bO hb0 hb2
  gi_wp2_with fail
  refine ⟨trivial, ?_⟩
  gi_at_call 38
  refine (callsIn_wide.2 (may_tab a2 n2 c2 ss _ (Hy.out.below hb02 (Nat.le_refl _)))).mono ?_
  rw [Hm2.out]
  rintro e w3 ⟨rfl, hb3⟩
  have cA3 := Boxed.cell ((hb3.block _ (Boxed.lt bA2)).trans bA2)
  have cB3 := Boxed.cell ((hb3.block _ (Boxed.lt bB2)).trans bB2)
  have cO3 := Boxed.cell ((hb3.block _ (Boxed.lt bO2)).trans bO2)
  have fO3 := Boxed.frozen ((hb3.block _ (Boxed.lt bO2)).trans bO2)
  have bOx : Boxed w3 p2 61 (.slice none 0 0) := (hb3.block _ (Boxed.lt bO2)).trans bO2
  have hb03 := hb02.trans (hb3.mono hb02.size)
  clear bA2 bB2 bO2 hb02 hb3 cA2 cB2 cO2 fO2
  gi_wp2
  have hfin := hb03.setCell (p := ⟨p2, 0, none⟩) (by show w.heap.size ≤ p2; omega) (.slice none 0 0)
  refine ⟨.tuple #[.slice none 0 0, .int .i64 2], ?_, rfl, hfin⟩
  have hcell : (w3.setCell ⟨p2, 0, none⟩ (.slice none 0 0)).cell? ⟨p2, 0, none⟩ = some (.slice none 0 0) := (bOx.set (.slice none 0 0)).cell
  simp [results, Try.f46, go_sem, hcell]

theorem changed_any (a a2 : Option Addr) (n c n2 c2 : Nat) (rs ss : List TRow) (w : World) (hx : SlT w a n c rs) (hy : SlT w a2 n2 c2 ss) :
    Calls Try.prog 46 #[.slice a n c, .slice a2 n2 c2] w fun e w' => ∃ v, e = .returned (.tuple #[v, .int .i64 (chE (tabOf rs) (tabOf ss))]) ∧ OwnP w.heap.size w' v (chP (tabOf rs) (tabOf ss)).length (chP (tabOf rs) (tabOf ss)) ∧ Below w.heap.size w w' := by
  have hl := hx.tlen
  have hl2 := hy.tlen
  unfold chE chP
  rw [hl, hl2]
  by_cases h1 : mayT (tabOf rs) = true
  · by_cases h2 : mayT (tabOf ss) = true
    · by_cases h3 : n = n2
      · rw [if_pos ⟨h1, h2, h3⟩, if_pos ⟨h1, h2, h3⟩]
        subst h3
        exact changed_yes a a2 n c c2 rs ss w hx hy h1 h2
      · rw [if_neg (fun h => h3 h.2.2), if_neg (fun h => h3 h.2.2)]
        refine (changed_no3 a a2 n c n2 c2 rs ss w hx hy h1 h2 h3).mono ?_
        rintro e w' ⟨rfl, hb⟩
        exact ⟨_, rfl, OwnP.nil _ _, hb⟩
    · rw [if_neg (fun h => h2 h.2.1), if_neg (fun h => h2 h.2.1)]
      refine (changed_no2 a a2 n c n2 c2 rs ss w hx hy h1 (by simpa using h2)).mono ?_
      rintro e w' ⟨rfl, hb⟩
      exact ⟨_, rfl, OwnP.nil _ _, hb⟩
  · rw [if_neg (fun h => h1 h.1), if_neg (fun h => h1 h.1)]
    refine (changed_no1 a a2 n c n2 c2 rs ss w hx hy (by simpa using h1)).mono ?_
    rintro e w' ⟨rfl, hb⟩
    exact ⟨_, rfl, OwnP.nil _ _, hb⟩

end Go.Proofs.Ytilhmlapbifbbaa
