/- Walk: the reference's core: Tiles, Columns. -/
import Derived.Test.YtgfmdgiepomkiaaTib
import Derived.Test.YtgfmdgiepomkiaaHa
import Derived.Test.YtgfmdgiepomkiaaPrs
import Derived.Test.YtgfmdgiepomkiaaKo
import Derived.Test.YtgfmdgiepomkiaaDeq
namespace Go.Proofs.Ytgfmdgiepomkiaa
open Go.RowKit Go.Sort
attribute [local go_sem] Instr.index

set_option maxHeartbeats 1000000 in
theorem reftiles15_any (cf : Cfg) (w : World) (hcf : cfgOk cf = true) :
    Calls Try.prog 90 #[cfgV cf] w fun e w' => e = .returned (.tuple #[.int .i64 (tW cf.w), .int .i64 (tW cf.d)]) ∧ Below w.heap.size w w' := by
  have CF := Lib.hid (fun W => refcfgcheck_any cf W)
  have hE : cfgE cf = 0 := by unfold cfgE; rw [if_pos hcf]
  rw [hE] at CF
  obtain ⟨h1, h2, h3, h4, h5, h6, h7, h8, h9, h10⟩ := tW_facts hcf
  have w1 : IntKind.i64.wrap (cf.w - 1) = cf.w - 1 := by rw [IntKind.wrap_i64]; omega
  have w2 : IntKind.i64.wrap (cf.d - 1) = cf.d - 1 := by rw [IntKind.wrap_i64]; omega
  have w3 : IntKind.i64.wrap ((cf.w - 1).tdiv 8) = (cf.w - 1).tdiv 8 := by rw [IntKind.wrap_i64]; omega
  have w4 : IntKind.i64.wrap ((cf.d - 1).tdiv 8) = (cf.d - 1).tdiv 8 := by rw [IntKind.wrap_i64]; omega
  have w5 : IntKind.i64.wrap ((cf.w - 1).tdiv 8 + 1) = (cf.w - 1).tdiv 8 + 1 := by rw [IntKind.wrap_i64]; omega
  have w6 : IntKind.i64.wrap ((cf.d - 1).tdiv 8 + 1) = (cf.d - 1).tdiv 8 + 1 := by rw [IntKind.wrap_i64]; omega
  have HO : Hid (∀ w', Below w.heap.size w w' → Ending.returned (.tuple #[.int .i64 ((cf.w - 1).tdiv 8 + 1), .int .i64 ((cf.d - 1).tdiv 8 + 1)]) = Ending.returned (.tuple #[.int .i64 (tW cf.w), .int .i64 (tW cf.d)]) ∧ Below w.heap.size w w') := fun w' hB => ⟨by rw [h5, h6], hB⟩
  clear h5 h6 h7 h8 h9 h10 hE
  have hB : Below w.heap.size w (w.alloc (cfO cf)) := (Below.refl _ _).alloc (Nat.le_refl _) _
  have hC := World.alloc_heap_new w (cfO cf)
  obtain ⟨W1, hW1⟩ : ∃ W, W = w.alloc (cfO cf) := ⟨_, rfl⟩
  rw [← hW1] at hB hC
  dsimp only [cfO, cfgV] at hC hW1 CF ⊢
  have c0 := hcell (k := 0) (v := .int .i64 cf.clear) hC rfl
  have c1 := hcell (k := 1) (v := .int .i64 cf.climb) hC rfl
  have c2 := hcell (k := 2) (v := .int .i64 cf.height) hC rfl
  have c3 := hcell (k := 3) (v := .int .i64 cf.rise) hC rfl
  have c4 := hcell (k := 4) (v := .int .i64 cf.run) hC rfl
  have c5 := hcell (k := 5) (v := .int .i64 cf.w) hC rfl
  have c6 := hcell (k := 6) (v := .int .i64 cf.d) hC rfl
  go_enter Try.func90, Try.ntmps90
  go_upto_region 1 with fail
  rw [← hW1]
  clear hW1
  go_wp2_with fail
  refine (CF.out _).mono ?_
  rintro e w1 ⟨rfl, hb1⟩
  have hC1 := hkeep hb1 hC
  have hB1 := hB.trans (hb1.mono hB.size)
  clear hC hb1 hB c0 c1 c2 c3 c4 c5 c6
  have d5 := hcell (k := 5) (v := .int .i64 cf.w) hC1 rfl
  have d6 := hcell (k := 6) (v := .int .i64 cf.d) hC1 rfl
  have e_d5 := fun d os => cell_regrown d5 d os
  have e_d6 := fun d os => cell_regrown d6 d os
  clear hC1 d5 d6
  go_upto_region 3 with fail
  refine wp_region_quiet_below (by kernel_rfl) (by kernel_rfl) ?_
  repeat (go_big_quiet_step (fail))
  refine wpQuiet_nil ?_
  rintro w4 ⟨⟨dq, osq⟩, hw4⟩
  have hb4 : Below w1.heap.size w1 w4 := by rw [hw4]; exact below_regrown w1 dq osq
  have hB4 := hB1.trans (hb4.mono hB1.size)
  clear hw4 e_d5 e_d6
  go_wp2
  go_ret2
  exact HO.out _ hB4
theorem cas17 {P : (i : Nat) → i < 17 → Prop} (h0 : P 0 (by decide)) (h1 : P 1 (by decide)) (h2 : P 2 (by decide)) (h3 : P 3 (by decide)) (h4 : P 4 (by decide)) (h5 : P 5 (by decide)) (h6 : P 6 (by decide)) (h7 : P 7 (by decide)) (h8 : P 8 (by decide)) (h9 : P 9 (by decide)) (h10 : P 10 (by decide)) (h11 : P 11 (by decide)) (h12 : P 12 (by decide)) (h13 : P 13 (by decide)) (h14 : P 14 (by decide)) (h15 : P 15 (by decide)) (h16 : P 16 (by decide)) (i : Nat) (h : i < 17) : P i h := by
  by_cases e : i < 8
  · rcases (by omega : i = 0 ∨ i = 1 ∨ i = 2 ∨ i = 3 ∨ i = 4 ∨ i = 5 ∨ i = 6 ∨ i = 7) with rfl | rfl | rfl | rfl | rfl | rfl | rfl | rfl <;> assumption
  · rcases (by omega : i = 8 ∨ i = 9 ∨ i = 10 ∨ i = 11 ∨ i = 12 ∨ i = 13 ∨ i = 14 ∨ i = 15 ∨ i = 16) with rfl | rfl | rfl | rfl | rfl | rfl | rfl | rfl | rfl <;> assumption
set_option maxRecDepth 100000 in
set_option maxHeartbeats 4000000 in
theorem refcolumns15_any (cf : Cfg) (tx tz : Int) (w : World) (hcf : cfgOk cf = true) :
    Calls Try.prog 56 #[cfgV cf, .int .i64 tx, .int .i64 tz] w fun e w' => e = .returned (.tuple #[.int .i64 (colV cf tx tz).1, .int .i64 (colV cf tx tz).2.1, .int .i64 (colV cf tx tz).2.2.1, .int .i64 (colV cf tx tz).2.2.2.1, .bool (colV cf tx tz).2.2.2.2]) ∧ Below w.heap.size w w' := by
  have TL := Lib.hid (fun W => reftiles15_any cf W hcf)
  obtain ⟨h1, h2, h3, h4, _, _, h7, h8, h9, h10⟩ := tW_facts hcf
  have HN0 : Hid (∀ w', colOk cf tx tz = false → Below w.heap.size w w' → Ending.returned (.tuple #[.int .i64 0, .int .i64 0, .int .i64 0, .int .i64 0, .bool false]) = Ending.returned (.tuple #[.int .i64 (colV cf tx tz).1, .int .i64 (colV cf tx tz).2.1, .int .i64 (colV cf tx tz).2.2.1, .int .i64 (colV cf tx tz).2.2.2.1, .bool (colV cf tx tz).2.2.2.2]) ∧ Below w.heap.size w w') := fun w' h hB => ⟨by unfold colV; rw [h]; rfl, hB⟩
  have HY0 : Hid (∀ w', colOk cf tx tz = true → Below w.heap.size w w' → Ending.returned (.tuple #[.int .i64 (tx * 8), .int .i64 (tz * 8), .int .i64 (if cf.w - tx * 8 < 8 then cf.w - tx * 8 else 8), .int .i64 (if cf.d - tz * 8 < 8 then cf.d - tz * 8 else 8), .bool true]) = Ending.returned (.tuple #[.int .i64 (colV cf tx tz).1, .int .i64 (colV cf tx tz).2.1, .int .i64 (colV cf tx tz).2.2.1, .int .i64 (colV cf tx tz).2.2.2.1, .bool (colV cf tx tz).2.2.2.2]) ∧ Below w.heap.size w w') := fun w' h hB => ⟨by unfold colV; rw [if_pos h, min_if, min_if], hB⟩
  generalize Ending.returned (.tuple #[.int .i64 (colV cf tx tz).1, .int .i64 (colV cf tx tz).2.1, .int .i64 (colV cf tx tz).2.2.1, .int .i64 (colV cf tx tz).2.2.2.1, .bool (colV cf tx tz).2.2.2.2]) = EE at HN0 HY0 ⊢
  have hB : Below w.heap.size w (w.alloc (cfO cf)) := (Below.refl _ _).alloc (Nat.le_refl _) _
  have hC := World.alloc_heap_new w (cfO cf)
  obtain ⟨W1, hW1⟩ : ∃ W, W = w.alloc (cfO cf) := ⟨_, rfl⟩
  rw [← hW1] at hB hC
  dsimp only [cfO, cfgV] at hC hW1 TL ⊢
  have c0 := hcell (k := 0) (v := .int .i64 cf.clear) hC rfl
  have c1 := hcell (k := 1) (v := .int .i64 cf.climb) hC rfl
  have c2 := hcell (k := 2) (v := .int .i64 cf.height) hC rfl
  have c3 := hcell (k := 3) (v := .int .i64 cf.rise) hC rfl
  have c4 := hcell (k := 4) (v := .int .i64 cf.run) hC rfl
  have c5 := hcell (k := 5) (v := .int .i64 cf.w) hC rfl
  have c6 := hcell (k := 6) (v := .int .i64 cf.d) hC rfl
  go_enter Try.func56, Try.ntmps56
  go_upto_region 1 with fail
  rw [← hW1]
  clear hW1
  go_wp2_with fail
  refine (TL.out _).mono ?_
  rintro e w2 ⟨rfl, hb2⟩
  have HC2 := Lib.hid (hkeep hb2 hC)
  have hB2 := hB.trans (hb2.mono hB.size)
  clear hC hB hb2 c0 c1 c2 c3 c4 c5 c6 TL
  by_cases q1 : tx < 0
  case pos =>
    have hN := HN0.out w2 (by unfold colOk; rw [decide_eq_false (by omega : ¬ 0 ≤ tx)]; rfl) hB2
    have HN := Lib.hid hN
    clear hN HY0
    go_wp2
    first
      | exact HN.out
      | ((try simp only [Exit.inBlock, Exit.then]); refine bodyPost_ret (results_tmp5 rfl _ _ _) rfl ?_; exact HN.out)
  by_cases q2 : tx < tW cf.w
  case neg =>
    have q2' : tW cf.w ≤ tx := by omega
    have hN := HN0.out w2 (by unfold colOk; rw [decide_eq_false q2]; simp) hB2
    have HN := Lib.hid hN
    clear hN HY0
    go_wp2
    first
      | exact HN.out
      | ((try simp only [Exit.inBlock, Exit.then]); refine bodyPost_ret (results_tmp5 rfl _ _ _) rfl ?_; exact HN.out)
  have q2' : ¬ tW cf.w ≤ tx := by omega
  by_cases q3 : tz < 0
  case pos =>
    have hN := HN0.out w2 (by unfold colOk; rw [decide_eq_false (by omega : ¬ 0 ≤ tz)]; simp) hB2
    have HN := Lib.hid hN
    clear hN HY0
    go_wp2
    first
      | exact HN.out
      | ((try simp only [Exit.inBlock, Exit.then]); refine bodyPost_ret (results_tmp5 rfl _ _ _) rfl ?_; exact HN.out)
  by_cases q4 : tz < tW cf.d
  case neg =>
    have q4' : tW cf.d ≤ tz := by omega
    have hN := HN0.out w2 (by unfold colOk; rw [decide_eq_false q4]; simp) hB2
    have HN := Lib.hid hN
    clear hN HY0
    go_wp2
    first
      | exact HN.out
      | ((try simp only [Exit.inBlock, Exit.then]); refine bodyPost_ret (results_tmp5 rfl _ _ _) rfl ?_; exact HN.out)
  have q4' : ¬ tW cf.d ≤ tz := by omega
  have hN : colOk cf tx tz = true := by unfold colOk; simp [q2, q4]; omega
  have HO := Lib.hid (fun w' => HY0.out w' hN)
  have w1 : IntKind.i64.wrap (tx * 8) = tx * 8 := by rw [IntKind.wrap_i64]; omega
  have w2_ : IntKind.i64.wrap (tz * 8) = tz * 8 := by rw [IntKind.wrap_i64]; omega
  clear HN0 HY0 hN
  go_upto_region 5 with fail
  obtain ⟨x, hx⟩ : ∃ x, x = tx * 8 := ⟨_, rfl⟩
  obtain ⟨z, hz⟩ : ∃ z, z = tz * 8 := ⟨_, rfl⟩
  have u1 : IntKind.i64.wrap (cf.w - x) = cf.w - x := by rw [IntKind.wrap_i64]; omega
  have u2 : IntKind.i64.wrap (cf.d - z) = cf.d - z := by rw [IntKind.wrap_i64]; omega
  rw [← hx, ← hz]
  rw [← hx, ← hz] at HO
  clear w1 w2_ q1 q2 q3 q4 q2' q4' hx hz
  refine wp_region_det ([none, none, none, none, none, none, some 12, some 13, some 14, some 15, some 16, none, none, none, none, none, none, none, none, none, none, none, none, none, none, none, none, none, none, none, none, none, none, none, none, none, none, none, none, none, some 0, some 1, some 2, some 3, some 4, some 5, some 6, some 7, some 8, some 9, some 10, some 11]) [fun v _ => v = .int .i64 (x),
        fun v _ => v = .int .i64 (z),
        fun v _ => v = .pointer (some ⟨w.heap.size, 5, none⟩),
        fun v _ => v = .int .i64 (cf.w),
        fun v _ => v = .int .i64 (x),
        fun v _ => v = .int .i64 (cf.w - x),
        fun v _ => v = .int .i64 (if cf.w - x < 8 then cf.w - x else 8),
        fun v _ => v = .pointer (some ⟨w.heap.size, 6, none⟩),
        fun v _ => v = .int .i64 (cf.d),
        fun v _ => v = .int .i64 (z),
        fun v _ => v = .int .i64 (cf.d - z),
        fun v _ => v = .int .i64 (if cf.d - z < 8 then cf.d - z else 8),
        fun v _ => v = .int .i64 (x),
        fun v _ => v = .int .i64 (z),
        fun v _ => v = .int .i64 (if cf.w - x < 8 then cf.w - x else 8),
        fun v _ => v = .int .i64 (if cf.d - z < 8 then cf.d - z else 8),
        fun v _ => v = .bool true] (by kernel_rfl) (by kernel_rfl) (by kernel_rfl) (by kernel_rfl) ?_ ?_ ?_
  · refine List.forall_mem_cons.2 ⟨fun _ _ _ h _ => h, List.forall_mem_cons.2 ⟨fun _ _ _ h _ => h, List.forall_mem_cons.2 ⟨fun _ _ _ h _ => h, List.forall_mem_cons.2 ⟨fun _ _ _ h _ => h, List.forall_mem_cons.2 ⟨fun _ _ _ h _ => h, List.forall_mem_cons.2 ⟨fun _ _ _ h _ => h, List.forall_mem_cons.2 ⟨fun _ _ _ h _ => h, List.forall_mem_cons.2 ⟨fun _ _ _ h _ => h, List.forall_mem_cons.2 ⟨fun _ _ _ h _ => h, List.forall_mem_cons.2 ⟨fun _ _ _ h _ => h, List.forall_mem_cons.2 ⟨fun _ _ _ h _ => h, List.forall_mem_cons.2 ⟨fun _ _ _ h _ => h, List.forall_mem_cons.2 ⟨fun _ _ _ h _ => h, List.forall_mem_cons.2 ⟨fun _ _ _ h _ => h, List.forall_mem_cons.2 ⟨fun _ _ _ h _ => h, List.forall_mem_cons.2 ⟨fun _ _ _ h _ => h, List.forall_mem_cons.2 ⟨fun _ _ _ h _ => h, List.forall_mem_nil _⟩⟩⟩⟩⟩⟩⟩⟩⟩⟩⟩⟩⟩⟩⟩⟩⟩
  · intro Q' K t vals wi hoff hon hB i hlt
    have hlt : i < 17 := hlt
    cases i, hlt using cas17
    · intro hS hK
      have g13 : t[(13 : Nat)]? = some (.int .i64 x) := hoff 13 _ rfl rfl
      clear hoff hon hS
      refine wpOp_of rfl rfl ?_
      go_simp
      exact hK.out _ _ rfl (Below.refl _ _)
    · intro hS hK
      have g14 : t[(14 : Nat)]? = some (.int .i64 z) := hoff 14 _ rfl rfl
      clear hoff hon hS
      refine wpOp_of rfl rfl ?_
      go_simp
      exact hK.out _ _ rfl (Below.refl _ _)
    · intro hS hK
      have g3 : t[(3 : Nat)]? = some (.pointer (some ⟨w.heap.size, 0, none⟩)) := hoff 3 _ rfl rfl
      clear hoff hon hS
      refine wpOp_of rfl rfl ?_
      go_simp
      exact hK.out _ _ rfl (Below.refl _ _)
    · intro hS hK
      have g42 : t[(42 : Nat)]? = some (.pointer (some ⟨w.heap.size, 5, none⟩)) := (hon 2 42 rfl).trans (congrArg some (hS 2 (by kernel_rfl)))
      have hC := hkeep hB HC2.out
      have c5 := hcell (k := 5) (v := .int .i64 cf.w) hC rfl
      clear hoff hon hS
      refine wpOp_of rfl rfl ?_
      go_simp
      exact hK.out _ _ rfl (Below.refl _ _)
    · intro hS hK
      have g13 : t[(13 : Nat)]? = some (.int .i64 x) := hoff 13 _ rfl rfl
      clear hoff hon hS
      refine wpOp_of rfl rfl ?_
      go_simp
      exact hK.out _ _ rfl (Below.refl _ _)
    · intro hS hK
      have g43 : t[(43 : Nat)]? = some (.int .i64 (cf.w)) := (hon 3 43 rfl).trans (congrArg some (hS 3 (by kernel_rfl)))
      have g44 : t[(44 : Nat)]? = some (.int .i64 (x)) := (hon 4 44 rfl).trans (congrArg some (hS 4 (by kernel_rfl)))
      have u := u1
      clear hoff hon hS
      refine wpOp_of rfl rfl ?_
      go_simp
      exact hK.out _ _ rfl (Below.refl _ _)
    · intro hS hK
      have g45 : t[(45 : Nat)]? = some (.int .i64 (cf.w - x)) := (hon 5 45 rfl).trans (congrArg some (hS 5 (by kernel_rfl)))
      clear hoff hon hS
      refine wpOp_of rfl rfl ?_
      go_simp
      exact hK.out _ _ rfl (Below.refl _ _)
    · intro hS hK
      have g3 : t[(3 : Nat)]? = some (.pointer (some ⟨w.heap.size, 0, none⟩)) := hoff 3 _ rfl rfl
      clear hoff hon hS
      refine wpOp_of rfl rfl ?_
      go_simp
      exact hK.out _ _ rfl (Below.refl _ _)
    · intro hS hK
      have g47 : t[(47 : Nat)]? = some (.pointer (some ⟨w.heap.size, 6, none⟩)) := (hon 7 47 rfl).trans (congrArg some (hS 7 (by kernel_rfl)))
      have hC := hkeep hB HC2.out
      have c6 := hcell (k := 6) (v := .int .i64 cf.d) hC rfl
      clear hoff hon hS
      refine wpOp_of rfl rfl ?_
      go_simp
      exact hK.out _ _ rfl (Below.refl _ _)
    · intro hS hK
      have g14 : t[(14 : Nat)]? = some (.int .i64 z) := hoff 14 _ rfl rfl
      clear hoff hon hS
      refine wpOp_of rfl rfl ?_
      go_simp
      exact hK.out _ _ rfl (Below.refl _ _)
    · intro hS hK
      have g48 : t[(48 : Nat)]? = some (.int .i64 (cf.d)) := (hon 8 48 rfl).trans (congrArg some (hS 8 (by kernel_rfl)))
      have g49 : t[(49 : Nat)]? = some (.int .i64 (z)) := (hon 9 49 rfl).trans (congrArg some (hS 9 (by kernel_rfl)))
      clear hoff hon hS
      refine wpOp_of rfl rfl ?_
      go_simp
      exact hK.out _ _ rfl (Below.refl _ _)
    · intro hS hK
      have g50 : t[(50 : Nat)]? = some (.int .i64 (cf.d - z)) := (hon 10 50 rfl).trans (congrArg some (hS 10 (by kernel_rfl)))
      clear hoff hon hS
      refine wpOp_of rfl rfl ?_
      go_simp
      exact hK.out _ _ rfl (Below.refl _ _)
    · intro hS hK
      have g40 : t[(40 : Nat)]? = some (.int .i64 (x)) := (hon 0 40 rfl).trans (congrArg some (hS 0 (by kernel_rfl)))
      clear hoff hon hS
      refine wpOp_of rfl rfl ?_
      go_simp
      exact hK.out _ _ rfl (Below.refl _ _)
    · intro hS hK
      have g41 : t[(41 : Nat)]? = some (.int .i64 (z)) := (hon 1 41 rfl).trans (congrArg some (hS 1 (by kernel_rfl)))
      clear hoff hon hS
      refine wpOp_of rfl rfl ?_
      go_simp
      exact hK.out _ _ rfl (Below.refl _ _)
    · intro hS hK
      have g46 : t[(46 : Nat)]? = some (.int .i64 (if cf.w - x < 8 then cf.w - x else 8)) := (hon 6 46 rfl).trans (congrArg some (hS 6 (by kernel_rfl)))
      clear hoff hon hS
      refine wpOp_of rfl rfl ?_
      go_simp
      exact hK.out _ _ rfl (Below.refl _ _)
    · intro hS hK
      have g51 : t[(51 : Nat)]? = some (.int .i64 (if cf.d - z < 8 then cf.d - z else 8)) := (hon 11 51 rfl).trans (congrArg some (hS 11 (by kernel_rfl)))
      clear hoff hon hS
      refine wpOp_of rfl rfl ?_
      go_simp
      exact hK.out _ _ rfl (Below.refl _ _)
    · intro hS hK
      clear hoff hon hS
      refine wpOp_of rfl rfl ?_
      go_simp
      exact hK.out _ _ rfl (Below.refl _ _)
  · intro vals wi hB hS
    have e0 : vals 0 = .int .i64 (x) := hS 0 (by decide)
    have e1 : vals 1 = .int .i64 (z) := hS 1 (by decide)
    have e2 : vals 2 = .pointer (some ⟨w.heap.size, 5, none⟩) := hS 2 (by decide)
    have e3 : vals 3 = .int .i64 (cf.w) := hS 3 (by decide)
    have e4 : vals 4 = .int .i64 (x) := hS 4 (by decide)
    have e5 : vals 5 = .int .i64 (cf.w - x) := hS 5 (by decide)
    have e6 : vals 6 = .int .i64 (if cf.w - x < 8 then cf.w - x else 8) := hS 6 (by decide)
    have e7 : vals 7 = .pointer (some ⟨w.heap.size, 6, none⟩) := hS 7 (by decide)
    have e8 : vals 8 = .int .i64 (cf.d) := hS 8 (by decide)
    have e9 : vals 9 = .int .i64 (z) := hS 9 (by decide)
    have e10 : vals 10 = .int .i64 (cf.d - z) := hS 10 (by decide)
    have e11 : vals 11 = .int .i64 (if cf.d - z < 8 then cf.d - z else 8) := hS 11 (by decide)
    have e12 : vals 12 = .int .i64 (x) := hS 12 (by decide)
    have e13 : vals 13 = .int .i64 (z) := hS 13 (by decide)
    have e14 : vals 14 = .int .i64 (if cf.w - x < 8 then cf.w - x else 8) := hS 14 (by decide)
    have e15 : vals 15 = .int .i64 (if cf.d - z < 8 then cf.d - z else 8) := hS 15 (by decide)
    have e16 : vals 16 = .bool true := hS 16 (by decide)
    clear hS
    dsimp only [over]
    simp only [e12, e13, e14, e15, e16]
    have hB4 := hB2.trans (hB.mono hB2.size)
    clear e0 e1 e2 e3 e4 e5 e6 e7 e8 e9 e10 e11 e12 e13 e14 e15 e16 hB
    have HF := Lib.hid (HO.out _ hB4)
    clear HO
    generalize (if cf.w - x < 8 then cf.w - x else 8) = mw at HF ⊢
    generalize (if cf.d - z < 8 then cf.d - z else 8) = md at HF ⊢
    go_wp2
    first
      | exact HF.out
      | ((try simp only [Exit.inBlock, Exit.then]); refine bodyPost_ret (results_tmp5 rfl _ _ _) rfl ?_; exact HF.out)
end Go.Proofs.Ytgfmdgiepomkiaa

namespace Go.Proofs.Ytgfmdgiepomkiaa
open Go.RowKit Go.Sort
attribute [local go_sem] Instr.index

set_option maxHeartbeats 4000000 in
theorem samedoors19_any (a b : Option Addr) (n c m d : Nat) (xs ys : List Dr) (w : World) (hx : SlR drC 6 w a n c xs) (hy : SlR drC 6 w b m d ys) :
    Calls Try.prog 40 #[.slice a n c, .slice b m d] w fun e w' => e = .returned (.bool (decide (xs = ys))) ∧ Below w.heap.size w w' := by
  have Hl := Lib.hid hx.len
  have Hm := Lib.hid hy.len
  have hmax := hx.max
  have hle := hx.le
  have Hx := Lib.hid hx; clear hx
  have Hy := Lib.hid hy; clear hy
  obtain ⟨R, hR⟩ : ∃ R, R = decide (xs = ys) := ⟨_, rfl⟩
  have HNe : Hid (∀ (k : Nat) (x y : Dr), xs[k]? = some x → ys[k]? = some y → x ≠ y → R = false) := fun k x y h1 h2 h3 => by rw [hR]; exact decide_eq_false (fun e => h3 (by rw [e, h2] at h1; exact (Option.some.inj h1).symm))
  have HLn : Hid (n ≠ m → R = false) := fun h => by rw [hR]; exact decide_eq_false (fun e => h (by rw [← Hl.out, ← Hm.out, e]))
  have HEq : Hid (n = m → xs.take n = ys.take n → R = true) := fun h h2 => by rw [hR]; exact decide_eq_true (by rw [List.take_of_length_le (Nat.le_of_eq Hl.out), List.take_of_length_le (Nat.le_of_eq (Hm.out.trans h.symm))] at h2; exact h2)
  rw [← hR]
  clear hR
  by_cases hnm : n = m
  case neg =>
    have hI : ¬ (n : Int) = (m : Int) := by omega
    have hF : Hid (R = false) := HLn.out hnm
    clear HNe HLn HEq Hl Hm Hx Hy hmax hle
    go_enter Try.func40, Try.ntmps40
    go_wp2
    go_ret
    exact ⟨by rw [hF.out]; rfl, Below.refl _ _⟩
  subst hnm
  go_enter Try.func40, Try.ntmps40
  go_wp2
  go_loopw [5] (fun i wr => ∃ k : Nat, i = .int .i64 k ∧ k ≤ n ∧ Hid (xs.take k = ys.take k) ∧ Below w.heap.size w wr) (fun i _ => n - (intOf i).toNat)
  case atStart => exact ⟨0, rfl, Nat.zero_le _, rfl, Below.refl _ _⟩
  case round =>
    obtain ⟨k, rfl, hk, HT, hb⟩ := hrel
    by_cases hlt : k < n
    · have h1 := Hx.out.below hb (Nat.le_refl _)
      have h2 := Hy.out.below hb (Nat.le_refl _)
      obtain ⟨b1, off1, rfl, hbl1, _⟩ := h1.at0 (by omega)
      obtain ⟨b2, off2, rfl, hbl2, _⟩ := h2.at0 (by omega)
      obtain ⟨x, hxk⟩ : ∃ x, xs[k]? = some x := ⟨_, List.getElem?_eq_getElem (by rw [Hl.out]; exact hlt)⟩
      obtain ⟨y, hyk⟩ : ∃ y, ys[k]? = some y := ⟨_, List.getElem?_eq_getElem (by rw [Hm.out]; exact hlt)⟩
      have p0 := SlDr.cells h1 hxk 0 _ rfl
      have p1 := SlDr.cells h1 hxk 1 _ rfl
      have p2 := SlDr.cells h1 hxk 2 _ rfl
      have p3 := SlDr.cells h1 hxk 3 _ rfl
      have p4 := SlDr.cells h1 hxk 4 _ rfl
      have p5 := SlDr.cells h1 hxk 5 _ rfl
      have q0 := SlDr.cells h2 hyk 0 _ rfl
      have q1 := SlDr.cells h2 hyk 1 _ rfl
      have q2 := SlDr.cells h2 hyk 2 _ rfl
      have q3 := SlDr.cells h2 hyk 3 _ rfl
      have q4 := SlDr.cells h2 hyk 4 _ rfl
      have q5 := SlDr.cells h2 hyk 5 _ rfl
      have HN2 : Hid (x ≠ y → R = false) := fun h => HNe.out k x y hxk hyk h
      have HT2 : Hid (x = y → xs.take (k + 1) = ys.take (k + 1)) := fun h => take_eq_step hxk hyk HT.out h
      clear h1 h2 hxk hyk
      simp only [Nat.add_zero] at p0 q0
      have eD := fun W => eqDr W x y
      obtain ⟨bq, hbq⟩ : ∃ b, b = decide (x = y) := ⟨_, rfl⟩
      rw [← hbq] at eD
      have HBQ := Lib.hid hbq
      clear hbq
      obtain ⟨xa, xb, xx0, xz0, xx1, xz1⟩ := x
      obtain ⟨ya, yb, yx0, yz0, yx1, yz1⟩ := y
      dsimp only at eD p0 p1 p2 p3 p4 p5 q0 q1 q2 q3 q4 q5
      go_wp2
      have e_p0 := fun d os => cell_regrown p0 d os
      have e_p1 := fun d os => cell_regrown p1 d os
      have e_p2 := fun d os => cell_regrown p2 d os
      have e_p3 := fun d os => cell_regrown p3 d os
      have e_p4 := fun d os => cell_regrown p4 d os
      have e_p5 := fun d os => cell_regrown p5 d os
      have e_q0 := fun d os => cell_regrown q0 d os
      have e_q1 := fun d os => cell_regrown q1 d os
      have e_q2 := fun d os => cell_regrown q2 d os
      have e_q3 := fun d os => cell_regrown q3 d os
      have e_q4 := fun d os => cell_regrown q4 d os
      have e_q5 := fun d os => cell_regrown q5 d os
      clear p0 p1 p2 p3 p4 p5 q0 q1 q2 q3 q4 q5
      cases bq with
      | true =>
        have hT2 : Hid (xs.take (k + 1) = ys.take (k + 1)) := HT2.out (of_decide_eq_true HBQ.out.symm)
        refine wp_region_quiet_below (by kernel_rfl) (by kernel_rfl) ?_
        repeat (go_big_quiet_step (fail))
        refine wpQuiet_nil ?_
        rintro w4 ⟨⟨dq, osq⟩, hw4⟩
        have hb4 : Below w.heap.size w w4 := by rw [hw4]; exact hb.trans ((below_regrown wr dq osq).mono hb.size)
        clear hw4 eD e_p0 e_p1 e_p2 e_p3 e_p4 e_p5 e_q0 e_q1 e_q2 e_q3 e_q4 e_q5
        go_wp2
        go_roundw
        case rel => exact ⟨k + 1, by go_num, by omega, hT2.out, hb4⟩
        case measure => simp [intOf]; omega
      | false =>
        have hF : Hid (R = false) := HN2.out (of_decide_eq_false HBQ.out.symm)
        refine wp_region_quiet_below (by kernel_rfl) (by kernel_rfl) ?_
        repeat (go_big_quiet_step (fail))
        refine wpQuiet_nil ?_
        rintro w4 ⟨⟨dq, osq⟩, hw4⟩
        have hb4 : Below w.heap.size w w4 := by rw [hw4]; exact hb.trans ((below_regrown wr dq osq).mono hb.size)
        clear hw4 eD e_p0 e_p1 e_p2 e_p3 e_p4 e_p5 e_q0 e_q1 e_q2 e_q3 e_q4 e_q5
        go_wp2
        go_ret
        exact ⟨by rw [hF.out]; rfl, hb4⟩
    · obtain rfl : k = n := by omega
      have hT : Hid (R = true) := HEq.out (by trivial) HT.out
      go_wp2
      go_ret
      exact ⟨by rw [hT.out]; rfl, hb⟩
end Go.Proofs.Ytgfmdgiepomkiaa
