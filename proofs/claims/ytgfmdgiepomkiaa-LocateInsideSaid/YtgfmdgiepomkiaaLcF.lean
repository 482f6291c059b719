/- Walks: how far a point is from a rectangle; which areas a filter admits. -/
import Derived.Test.YtgfmdgiepomkiaaLcP
import Derived.Test.YtgfmdgiepomkiaaKo
namespace Go.Proofs.Ytgfmdgiepomkiaa
open Go.RowKit Go.Sort
attribute [local go_sem] Instr.index

@[local go_sem] theorem run_store_funcF (P : Program) (w : World) (a : Addr) (f : Fn) (x y : Array Value) (m : Mode) :
    (store a (.func f x y) m).run P w = match w.cell? a with
      | some _ => if w.frozen? a then .halt (.unsupported (.unsafePointer "a write to bytes that a string shares")) w else .ok () (w.setCell a (.func f x y))
      | none => match w.farStore P a (.func f x y) (m == .atomic) with
        | .ok (w', _) => .ok () w'
        | .error h => .halt h w := run_store P w a _ m rfl
theorem cas19 {P : (i : Nat) → i < 19 → Prop} (h0 : P 0 (by decide)) (h1 : P 1 (by decide)) (h2 : P 2 (by decide)) (h3 : P 3 (by decide)) (h4 : P 4 (by decide)) (h5 : P 5 (by decide)) (h6 : P 6 (by decide)) (h7 : P 7 (by decide)) (h8 : P 8 (by decide)) (h9 : P 9 (by decide)) (h10 : P 10 (by decide)) (h11 : P 11 (by decide)) (h12 : P 12 (by decide)) (h13 : P 13 (by decide)) (h14 : P 14 (by decide)) (h15 : P 15 (by decide)) (h16 : P 16 (by decide)) (h17 : P 17 (by decide)) (h18 : P 18 (by decide)) (i : Nat) (h : i < 19) : P i h := by
  by_cases e : i < 9
  · rcases (by omega : i = 0 ∨ i = 1 ∨ i = 2 ∨ i = 3 ∨ i = 4 ∨ i = 5 ∨ i = 6 ∨ i = 7 ∨ i = 8) with rfl | rfl | rfl | rfl | rfl | rfl | rfl | rfl | rfl <;> assumption
  · rcases (by omega : i = 9 ∨ i = 10 ∨ i = 11 ∨ i = 12 ∨ i = 13 ∨ i = 14 ∨ i = 15 ∨ i = 16 ∨ i = 17 ∨ i = 18) with rfl | rfl | rfl | rfl | rfl | rfl | rfl | rfl | rfl | rfl <;> assumption
theorem cas18 {P : (i : Nat) → i < 18 → Prop} (h0 : P 0 (by decide)) (h1 : P 1 (by decide)) (h2 : P 2 (by decide)) (h3 : P 3 (by decide)) (h4 : P 4 (by decide)) (h5 : P 5 (by decide)) (h6 : P 6 (by decide)) (h7 : P 7 (by decide)) (h8 : P 8 (by decide)) (h9 : P 9 (by decide)) (h10 : P 10 (by decide)) (h11 : P 11 (by decide)) (h12 : P 12 (by decide)) (h13 : P 13 (by decide)) (h14 : P 14 (by decide)) (h15 : P 15 (by decide)) (h16 : P 16 (by decide)) (h17 : P 17 (by decide)) (i : Nat) (h : i < 18) : P i h := by
  by_cases e : i < 9
  · rcases (by omega : i = 0 ∨ i = 1 ∨ i = 2 ∨ i = 3 ∨ i = 4 ∨ i = 5 ∨ i = 6 ∨ i = 7 ∨ i = 8) with rfl | rfl | rfl | rfl | rfl | rfl | rfl | rfl | rfl <;> assumption
  · rcases (by omega : i = 9 ∨ i = 10 ∨ i = 11 ∨ i = 12 ∨ i = 13 ∨ i = 14 ∨ i = 15 ∨ i = 16 ∨ i = 17) with rfl | rfl | rfl | rfl | rfl | rfl | rfl | rfl | rfl <;> assumption
theorem cas9 {P : (i : Nat) → i < 9 → Prop} (h0 : P 0 (by decide)) (h1 : P 1 (by decide)) (h2 : P 2 (by decide)) (h3 : P 3 (by decide)) (h4 : P 4 (by decide)) (h5 : P 5 (by decide)) (h6 : P 6 (by decide)) (h7 : P 7 (by decide)) (h8 : P 8 (by decide)) (i : Nat) (h : i < 9) : P i h := by
  by_cases e : i < 4
  · rcases (by omega : i = 0 ∨ i = 1 ∨ i = 2 ∨ i = 3) with rfl | rfl | rfl | rfl <;> assumption
  · rcases (by omega : i = 4 ∨ i = 5 ∨ i = 6 ∨ i = 7 ∨ i = 8) with rfl | rfl | rfl | rfl | rfl <;> assumption
theorem lfar1_any (n : Int) (w : World) : Calls Try.prog 49 #[.int .i64 n] w fun e w' => e = .returned (.int .i64 (inF n)) ∧ Below w.heap.size w w' := by
  go_enter Try.func49, Try.ntmps49
  go_wp2
  go_ret
  exact ⟨rfl, Below.refl _ _⟩
abbrev far1V : Value := .func (.func 49) #[] #[]
set_option maxRecDepth 100000 in
set_option maxHeartbeats 8000000 in
theorem lfar2_any (n lo hi : Int) (P : Nat) (w : World) (hP : w.heap[P]? = some (.cells #[far1V] 62 (0, 0))) :
    Calls Try.prog 50 #[.int .i64 n, .int .i64 lo, .int .i64 hi, .pointer (some ⟨P, 0, none⟩)] w fun e w' => e = .returned (.int .i64 (offF n lo hi)) ∧ Below w.heap.size w w' := by
  have F1 := Lib.hid (fun n W => lfar1_any n W)
  have hN := inF_bd n
  have hL := inF_bd lo
  have hH := inF_bd hi
  have HO : Hid (∀ w', Below w.heap.size w w' → Ending.returned (.int .i64 (max (2 * inF lo - inF n) (max (inF n - 2 * inF hi - 2) 0))) = Ending.returned (.int .i64 (offF n lo hi)) ∧ Below w.heap.size w w') := fun w' hB => ⟨by unfold offF; rw [Int.max_assoc], hB⟩
  obtain ⟨N, hN0⟩ : ∃ N, N = inF n := ⟨_, rfl⟩
  obtain ⟨L, hL0⟩ : ∃ N, N = inF lo := ⟨_, rfl⟩
  obtain ⟨H, hH0⟩ : ∃ N, N = inF hi := ⟨_, rfl⟩
  rw [← hN0] at hN HO
  rw [← hL0] at hL HO
  rw [← hH0] at hH HO
  have w1 : IntKind.i64.wrap (2 * L) = 2 * L := by rw [IntKind.wrap_i64]; omega
  have w2 : IntKind.i64.wrap (2 * L - N) = 2 * L - N := by rw [IntKind.wrap_i64]; omega
  have w3 : IntKind.i64.wrap (2 * H) = 2 * H := by rw [IntKind.wrap_i64]; omega
  have w4 : IntKind.i64.wrap (N - 2 * H) = N - 2 * H := by rw [IntKind.wrap_i64]; omega
  have w5 : IntKind.i64.wrap (N - 2 * H - 2) = N - 2 * H - 2 := by rw [IntKind.wrap_i64]; omega
  have C1 := Lib.hid (fun W => by have := lfar1_any n W; rw [← hN0] at this; exact this)
  have C2 := Lib.hid (fun W => by have := lfar1_any lo W; rw [← hL0] at this; exact this)
  have C3 := Lib.hid (fun W => by have := lfar1_any hi W; rw [← hH0] at this; exact this)
  clear hN hL hH hN0 hL0 hH0 F1
  have HP := Lib.hid hP
  clear hP
  go_enter Try.func50, Try.ntmps50
  go_upto_region 1 with fail
  refine wp_region_det ([none, none, none, none, none, none, none, some 18, some 0, some 1, some 2, some 3, some 4, some 5, some 6, some 7, some 8, some 9, some 10, some 11, some 12, some 13, some 14, some 15, some 16, some 17]) [fun v _ => v = far1V,
        fun v _ => v = .int .i64 lo,
        fun v _ => v = .int .i64 L,
        fun v _ => v = .int .i64 (2 * L),
        fun v _ => v = far1V,
        fun v _ => v = .int .i64 n,
        fun v _ => v = .int .i64 N,
        fun v _ => v = .int .i64 (2 * L - N),
        fun v _ => v = far1V,
        fun v _ => v = .int .i64 n,
        fun v _ => v = .int .i64 N,
        fun v _ => v = far1V,
        fun v _ => v = .int .i64 hi,
        fun v _ => v = .int .i64 H,
        fun v _ => v = .int .i64 (2 * H),
        fun v _ => v = .int .i64 (N - 2 * H),
        fun v _ => v = .int .i64 (N - 2 * H - 2),
        fun v _ => v = .int .i64 (max (2 * L - N) (max (N - 2 * H - 2) 0)),
        fun v _ => v = .int .i64 (max (2 * L - N) (max (N - 2 * H - 2) 0))] (by kernel_rfl) (by kernel_rfl) (by kernel_rfl) (by kernel_rfl) ?_ ?_ ?_
  · refine List.forall_mem_cons.2 ⟨fun _ _ _ h _ => h, List.forall_mem_cons.2 ⟨fun _ _ _ h _ => h, List.forall_mem_cons.2 ⟨fun _ _ _ h _ => h, List.forall_mem_cons.2 ⟨fun _ _ _ h _ => h, List.forall_mem_cons.2 ⟨fun _ _ _ h _ => h, List.forall_mem_cons.2 ⟨fun _ _ _ h _ => h, List.forall_mem_cons.2 ⟨fun _ _ _ h _ => h, List.forall_mem_cons.2 ⟨fun _ _ _ h _ => h, List.forall_mem_cons.2 ⟨fun _ _ _ h _ => h, List.forall_mem_cons.2 ⟨fun _ _ _ h _ => h, List.forall_mem_cons.2 ⟨fun _ _ _ h _ => h, List.forall_mem_cons.2 ⟨fun _ _ _ h _ => h, List.forall_mem_cons.2 ⟨fun _ _ _ h _ => h, List.forall_mem_cons.2 ⟨fun _ _ _ h _ => h, List.forall_mem_cons.2 ⟨fun _ _ _ h _ => h, List.forall_mem_cons.2 ⟨fun _ _ _ h _ => h, List.forall_mem_cons.2 ⟨fun _ _ _ h _ => h, List.forall_mem_cons.2 ⟨fun _ _ _ h _ => h, List.forall_mem_cons.2 ⟨fun _ _ _ h _ => h, List.forall_mem_nil _⟩⟩⟩⟩⟩⟩⟩⟩⟩⟩⟩⟩⟩⟩⟩⟩⟩⟩⟩
  · intro Q' K t vals wi hoff hon hB i hlt
    have hlt : i < 19 := hlt
    cases i, hlt using cas19
    · intro hS hK
      have g3 : t[(3 : Nat)]? = some (.pointer (some ⟨P, 0, none⟩)) := hoff 3 _ rfl rfl
      have c0 := hcell (k := 0) (v := far1V) (hkeep hB HP.out) rfl
      clear hoff hon hS
      refine wpOp_of rfl rfl ?_
      go_simp
      exact hK.out _ _ rfl (Below.refl _ _)
    · intro hS hK
      have g1 : t[(1 : Nat)]? = some (.int .i64 lo) := hoff 1 _ rfl rfl
      clear hoff hon hS
      refine wpOp_of rfl rfl ?_
      go_simp
      exact hK.out _ _ rfl (Below.refl _ _)
    · intro hS hK
      have g8 : t[(8 : Nat)]? = some (far1V) := (hon 0 8 rfl).trans (congrArg some (hS 0 (by kernel_rfl)))
      have g9 : t[(9 : Nat)]? = some (.int .i64 lo) := (hon 1 9 rfl).trans (congrArg some (hS 1 (by kernel_rfl)))
      clear hoff hon hS
      refine wpOp_of rfl rfl ?_
      go_simp
      go_at_call 49
      refine (C2.out _).mono ?_
      rintro e wz ⟨rfl, hbz⟩
      (try go_simp)
      exact hK.out _ _ rfl hbz
    · intro hS hK
      have g10 : t[(10 : Nat)]? = some (.int .i64 L) := (hon 2 10 rfl).trans (congrArg some (hS 2 (by kernel_rfl)))
      clear hoff hon hS
      refine wpOp_of rfl rfl ?_
      go_simp
      exact hK.out _ _ rfl (Below.refl _ _)
    · intro hS hK
      have g3 : t[(3 : Nat)]? = some (.pointer (some ⟨P, 0, none⟩)) := hoff 3 _ rfl rfl
      have c0 := hcell (k := 0) (v := far1V) (hkeep hB HP.out) rfl
      clear hoff hon hS
      refine wpOp_of rfl rfl ?_
      go_simp
      exact hK.out _ _ rfl (Below.refl _ _)
    · intro hS hK
      have g0 : t[(0 : Nat)]? = some (.int .i64 n) := hoff 0 _ rfl rfl
      clear hoff hon hS
      refine wpOp_of rfl rfl ?_
      go_simp
      exact hK.out _ _ rfl (Below.refl _ _)
    · intro hS hK
      have g12 : t[(12 : Nat)]? = some (far1V) := (hon 4 12 rfl).trans (congrArg some (hS 4 (by kernel_rfl)))
      have g13 : t[(13 : Nat)]? = some (.int .i64 n) := (hon 5 13 rfl).trans (congrArg some (hS 5 (by kernel_rfl)))
      clear hoff hon hS
      refine wpOp_of rfl rfl ?_
      go_simp
      go_at_call 49
      refine (C1.out _).mono ?_
      rintro e wz ⟨rfl, hbz⟩
      (try go_simp)
      exact hK.out _ _ rfl hbz
    · intro hS hK
      have g11 : t[(11 : Nat)]? = some (.int .i64 (2 * L)) := (hon 3 11 rfl).trans (congrArg some (hS 3 (by kernel_rfl)))
      have g14 : t[(14 : Nat)]? = some (.int .i64 N) := (hon 6 14 rfl).trans (congrArg some (hS 6 (by kernel_rfl)))
      clear hoff hon hS
      refine wpOp_of rfl rfl ?_
      go_simp
      exact hK.out _ _ rfl (Below.refl _ _)
    · intro hS hK
      have g3 : t[(3 : Nat)]? = some (.pointer (some ⟨P, 0, none⟩)) := hoff 3 _ rfl rfl
      have c0 := hcell (k := 0) (v := far1V) (hkeep hB HP.out) rfl
      clear hoff hon hS
      refine wpOp_of rfl rfl ?_
      go_simp
      exact hK.out _ _ rfl (Below.refl _ _)
    · intro hS hK
      have g0 : t[(0 : Nat)]? = some (.int .i64 n) := hoff 0 _ rfl rfl
      clear hoff hon hS
      refine wpOp_of rfl rfl ?_
      go_simp
      exact hK.out _ _ rfl (Below.refl _ _)
    · intro hS hK
      have g16 : t[(16 : Nat)]? = some (far1V) := (hon 8 16 rfl).trans (congrArg some (hS 8 (by kernel_rfl)))
      have g17 : t[(17 : Nat)]? = some (.int .i64 n) := (hon 9 17 rfl).trans (congrArg some (hS 9 (by kernel_rfl)))
      clear hoff hon hS
      refine wpOp_of rfl rfl ?_
      go_simp
      go_at_call 49
      refine (C1.out _).mono ?_
      rintro e wz ⟨rfl, hbz⟩
      (try go_simp)
      exact hK.out _ _ rfl hbz
    · intro hS hK
      have g3 : t[(3 : Nat)]? = some (.pointer (some ⟨P, 0, none⟩)) := hoff 3 _ rfl rfl
      have c0 := hcell (k := 0) (v := far1V) (hkeep hB HP.out) rfl
      clear hoff hon hS
      refine wpOp_of rfl rfl ?_
      go_simp
      exact hK.out _ _ rfl (Below.refl _ _)
    · intro hS hK
      have g2 : t[(2 : Nat)]? = some (.int .i64 hi) := hoff 2 _ rfl rfl
      clear hoff hon hS
      refine wpOp_of rfl rfl ?_
      go_simp
      exact hK.out _ _ rfl (Below.refl _ _)
    · intro hS hK
      have g19 : t[(19 : Nat)]? = some (far1V) := (hon 11 19 rfl).trans (congrArg some (hS 11 (by kernel_rfl)))
      have g20 : t[(20 : Nat)]? = some (.int .i64 hi) := (hon 12 20 rfl).trans (congrArg some (hS 12 (by kernel_rfl)))
      clear hoff hon hS
      refine wpOp_of rfl rfl ?_
      go_simp
      go_at_call 49
      refine (C3.out _).mono ?_
      rintro e wz ⟨rfl, hbz⟩
      (try go_simp)
      exact hK.out _ _ rfl hbz
    · intro hS hK
      have g21 : t[(21 : Nat)]? = some (.int .i64 H) := (hon 13 21 rfl).trans (congrArg some (hS 13 (by kernel_rfl)))
      clear hoff hon hS
      refine wpOp_of rfl rfl ?_
      go_simp
      exact hK.out _ _ rfl (Below.refl _ _)
    · intro hS hK
      have g18 : t[(18 : Nat)]? = some (.int .i64 N) := (hon 10 18 rfl).trans (congrArg some (hS 10 (by kernel_rfl)))
      have g22 : t[(22 : Nat)]? = some (.int .i64 (2 * H)) := (hon 14 22 rfl).trans (congrArg some (hS 14 (by kernel_rfl)))
      clear hoff hon hS
      refine wpOp_of rfl rfl ?_
      go_simp
      exact hK.out _ _ rfl (Below.refl _ _)
    · intro hS hK
      have g23 : t[(23 : Nat)]? = some (.int .i64 (N - 2 * H)) := (hon 15 23 rfl).trans (congrArg some (hS 15 (by kernel_rfl)))
      clear hoff hon hS
      refine wpOp_of rfl rfl ?_
      go_simp
      exact hK.out _ _ rfl (Below.refl _ _)
    · intro hS hK
      have g15 : t[(15 : Nat)]? = some (.int .i64 (2 * L - N)) := (hon 7 15 rfl).trans (congrArg some (hS 7 (by kernel_rfl)))
      have g24 : t[(24 : Nat)]? = some (.int .i64 (N - 2 * H - 2)) := (hon 16 24 rfl).trans (congrArg some (hS 16 (by kernel_rfl)))
      clear hoff hon hS
      refine wpOp_of rfl rfl ?_
      go_simp
      exact hK.out _ _ (show _ = _ from congrArg (Value.int .i64) (by repeat (first | omega | split))) (Below.refl _ _)
    · intro hS hK
      have g25 : t[(25 : Nat)]? = some (.int .i64 (max (2 * L - N) (max (N - 2 * H - 2) 0))) := (hon 17 25 rfl).trans (congrArg some (hS 17 (by kernel_rfl)))
      clear hoff hon hS
      refine wpOp_of rfl rfl ?_
      go_simp
      exact hK.out _ _ rfl (Below.refl _ _)
  · intro vals wi hB hS
    have e0 : vals 0 = far1V := hS 0 (by decide)
    have e1 : vals 1 = .int .i64 lo := hS 1 (by decide)
    have e2 : vals 2 = .int .i64 L := hS 2 (by decide)
    have e3 : vals 3 = .int .i64 (2 * L) := hS 3 (by decide)
    have e4 : vals 4 = far1V := hS 4 (by decide)
    have e5 : vals 5 = .int .i64 n := hS 5 (by decide)
    have e6 : vals 6 = .int .i64 N := hS 6 (by decide)
    have e7 : vals 7 = .int .i64 (2 * L - N) := hS 7 (by decide)
    have e8 : vals 8 = far1V := hS 8 (by decide)
    have e9 : vals 9 = .int .i64 n := hS 9 (by decide)
    have e10 : vals 10 = .int .i64 N := hS 10 (by decide)
    have e11 : vals 11 = far1V := hS 11 (by decide)
    have e12 : vals 12 = .int .i64 hi := hS 12 (by decide)
    have e13 : vals 13 = .int .i64 H := hS 13 (by decide)
    have e14 : vals 14 = .int .i64 (2 * H) := hS 14 (by decide)
    have e15 : vals 15 = .int .i64 (N - 2 * H) := hS 15 (by decide)
    have e16 : vals 16 = .int .i64 (N - 2 * H - 2) := hS 16 (by decide)
    have e17 : vals 17 = .int .i64 (max (2 * L - N) (max (N - 2 * H - 2) 0)) := hS 17 (by decide)
    have e18 : vals 18 = .int .i64 (max (2 * L - N) (max (N - 2 * H - 2) 0)) := hS 18 (by decide)
    clear hS
    dsimp only [over]
    rw [e18]
    clear e0 e1 e2 e3 e4 e5 e6 e7 e8 e9 e10 e11 e12 e13 e14 e15 e16 e17 e18
    go_wp2
    go_ret
    exact HO.out _ hB
set_option maxRecDepth 100000 in
set_option maxHeartbeats 8000000 in
theorem lfar_any (h : RHd) (r : Rc) (px pz : Int) (w : World) :
    Calls Try.prog 18 #[rcV h r, .agg #[.int .i64 px, .int .i64 pz]] w fun e w' => e = .returned (.int .i64 (farF r px pz)) ∧ Below w.heap.size w w' := by
  have hX := sq_bd (offF_bd px r.x0 r.x1)
  have hZ := sq_bd (offF_bd pz r.z0 r.z1)
  have C1 := Lib.hid (fun P W hP => lfar2_any px r.x0 r.x1 P W hP)
  have C2 := Lib.hid (fun P W hP => lfar2_any pz r.z0 r.z1 P W hP)
  have HO : Hid (∀ w', Below w.heap.size w w' → Ending.returned (.int .i64 (offF px r.x0 r.x1 * offF px r.x0 r.x1 + offF pz r.z0 r.z1 * offF pz r.z0 r.z1)) = Ending.returned (.int .i64 (farF r px pz)) ∧ Below w.heap.size w w') := fun w' hB => ⟨rfl, hB⟩
  obtain ⟨X, hX0⟩ : ∃ N, N = offF px r.x0 r.x1 := ⟨_, rfl⟩
  obtain ⟨Z, hZ0⟩ : ∃ N, N = offF pz r.z0 r.z1 := ⟨_, rfl⟩
  rw [← hX0] at hX HO C1
  rw [← hZ0] at hZ HO C2
  have w1 : IntKind.i64.wrap (X * X) = X * X := by rw [IntKind.wrap_i64]; omega
  have w2 : IntKind.i64.wrap (Z * Z) = Z * Z := by rw [IntKind.wrap_i64]; omega
  have w3 : IntKind.i64.wrap (X * X + Z * Z) = X * X + Z * Z := by rw [IntKind.wrap_i64]; omega
  clear hX hZ hX0 hZ0
  have hB : Below w.heap.size w (((w.alloc (rcO h r)).alloc (.cells #[.int .i64 px, .int .i64 pz] 48 (0, 0))).alloc (.cells #[far1V] 62 (0, 0))) := (((Below.refl _ _).alloc (Nat.le_refl _) _).alloc (by simp) _).alloc (by simp; omega) _
  have hR := halloc (halloc (World.alloc_heap_new w (rcO h r)) (.cells #[.int .i64 px, .int .i64 pz] 48 (0, 0))) (.cells #[far1V] 62 (0, 0))
  have hQ := halloc (World.alloc_heap_new (w.alloc (rcO h r)) (.cells #[.int .i64 px, .int .i64 pz] 48 (0, 0))) (.cells #[far1V] 62 (0, 0))
  have hF := World.alloc_heap_new ((w.alloc (rcO h r)).alloc (.cells #[.int .i64 px, .int .i64 pz] 48 (0, 0))) (.cells #[far1V] 62 (0, 0))
  simp only [World.size_alloc] at hQ hF
  dsimp only [rcO, rcV] at hB hR hQ hF ⊢
  go_enter Try.func18, Try.ntmps18
  go_upto_region 3 with fail
  have HR := Lib.hid hR
  have HQ := Lib.hid hQ
  have HF := Lib.hid hF
  clear hR hQ hF
  obtain ⟨W3, hW3⟩ : ∃ W, W = ((w.alloc (.cells #[.int .i64 r.x0, .int .i64 r.z0, .int .i64 r.x1, .int .i64 r.z1, .int .i64 r.area, .slice h.ya r.ys.length h.yc, .slice h.ta r.ts.length h.tc] 55 (0, 0))).alloc (.cells #[.int .i64 px, .int .i64 pz] 48 (0, 0))).alloc (.cells #[far1V] 62 (0, 0)) := ⟨_, rfl⟩
  rw [← hW3] at hB HR HQ HF ⊢
  clear hW3
  have hB0 := Lib.hid hB
  clear hB
  refine wp_region_det ([none, none, none, none, none, none, none, some 16, some 17, none, some 0, some 1, some 2, some 3, some 4, some 5, some 6, some 7, some 8, some 9, some 10, some 11, some 12, some 13, some 14, some 15, none, none, none, none, none, none, none]) [fun v _ => v = .func (.func 50) #[] #[.pointer (some ⟨w.heap.size + 1 + 1, 0, none⟩)],
        fun v _ => v = .pointer (some ⟨w.heap.size + 1, 0, none⟩),
        fun v _ => v = .int .i64 px,
        fun v _ => v = .pointer (some ⟨w.heap.size, 0, none⟩),
        fun v _ => v = .int .i64 r.x0,
        fun v _ => v = .pointer (some ⟨w.heap.size, 2, none⟩),
        fun v _ => v = .int .i64 r.x1,
        fun v _ => v = .int .i64 X,
        fun v _ => v = .func (.func 50) #[] #[.pointer (some ⟨w.heap.size + 1 + 1, 0, none⟩)],
        fun v _ => v = .pointer (some ⟨w.heap.size + 1, 1, none⟩),
        fun v _ => v = .int .i64 pz,
        fun v _ => v = .pointer (some ⟨w.heap.size, 1, none⟩),
        fun v _ => v = .int .i64 r.z0,
        fun v _ => v = .pointer (some ⟨w.heap.size, 3, none⟩),
        fun v _ => v = .int .i64 r.z1,
        fun v _ => v = .int .i64 Z,
        fun v _ => v = .int .i64 X,
        fun v _ => v = .int .i64 Z] (by kernel_rfl) (by kernel_rfl) (by kernel_rfl) (by kernel_rfl) ?_ ?_ ?_
  · refine List.forall_mem_cons.2 ⟨fun _ _ _ h _ => h, List.forall_mem_cons.2 ⟨fun _ _ _ h _ => h, List.forall_mem_cons.2 ⟨fun _ _ _ h _ => h, List.forall_mem_cons.2 ⟨fun _ _ _ h _ => h, List.forall_mem_cons.2 ⟨fun _ _ _ h _ => h, List.forall_mem_cons.2 ⟨fun _ _ _ h _ => h, List.forall_mem_cons.2 ⟨fun _ _ _ h _ => h, List.forall_mem_cons.2 ⟨fun _ _ _ h _ => h, List.forall_mem_cons.2 ⟨fun _ _ _ h _ => h, List.forall_mem_cons.2 ⟨fun _ _ _ h _ => h, List.forall_mem_cons.2 ⟨fun _ _ _ h _ => h, List.forall_mem_cons.2 ⟨fun _ _ _ h _ => h, List.forall_mem_cons.2 ⟨fun _ _ _ h _ => h, List.forall_mem_cons.2 ⟨fun _ _ _ h _ => h, List.forall_mem_cons.2 ⟨fun _ _ _ h _ => h, List.forall_mem_cons.2 ⟨fun _ _ _ h _ => h, List.forall_mem_cons.2 ⟨fun _ _ _ h _ => h, List.forall_mem_cons.2 ⟨fun _ _ _ h _ => h, List.forall_mem_nil _⟩⟩⟩⟩⟩⟩⟩⟩⟩⟩⟩⟩⟩⟩⟩⟩⟩⟩
  · intro Q' K t vals wi hoff hon hB i hlt
    have hlt : i < 18 := hlt
    cases i, hlt using cas18
    · intro hS hK
      have g6 : t[(6 : Nat)]? = some (.func (.func 50) #[] #[.pointer (some ⟨w.heap.size + 1 + 1, 0, none⟩)]) := hoff 6 _ rfl rfl
      clear hoff hon hS
      refine wpOp_of rfl rfl ?_
      go_simp
      exact hK.out _ _ rfl (Below.refl _ _)
    · intro hS hK
      have g3 : t[(3 : Nat)]? = some (.pointer (some ⟨w.heap.size + 1, 0, none⟩)) := hoff 3 _ rfl rfl
      clear hoff hon hS
      refine wpOp_of rfl rfl ?_
      go_simp
      exact hK.out _ _ rfl (Below.refl _ _)
    · intro hS hK
      have g11 : t[(11 : Nat)]? = some (.pointer (some ⟨w.heap.size + 1, 0, none⟩)) := (hon 1 11 rfl).trans (congrArg some (hS 1 (by kernel_rfl)))
      have c0 := hcell (k := 0) (v := .int .i64 px) (hkeep hB HQ.out) rfl
      clear hoff hon hS
      refine wpOp_of rfl rfl ?_
      go_simp
      exact hK.out _ _ rfl (Below.refl _ _)
    · intro hS hK
      have g2 : t[(2 : Nat)]? = some (.pointer (some ⟨w.heap.size, 0, none⟩)) := hoff 2 _ rfl rfl
      clear hoff hon hS
      refine wpOp_of rfl rfl ?_
      go_simp
      exact hK.out _ _ rfl (Below.refl _ _)
    · intro hS hK
      have g13 : t[(13 : Nat)]? = some (.pointer (some ⟨w.heap.size, 0, none⟩)) := (hon 3 13 rfl).trans (congrArg some (hS 3 (by kernel_rfl)))
      have c0 := hcell (k := 0) (v := .int .i64 r.x0) (hkeep hB HR.out) rfl
      clear hoff hon hS
      refine wpOp_of rfl rfl ?_
      go_simp
      exact hK.out _ _ rfl (Below.refl _ _)
    · intro hS hK
      have g2 : t[(2 : Nat)]? = some (.pointer (some ⟨w.heap.size, 0, none⟩)) := hoff 2 _ rfl rfl
      clear hoff hon hS
      refine wpOp_of rfl rfl ?_
      go_simp
      exact hK.out _ _ rfl (Below.refl _ _)
    · intro hS hK
      have g15 : t[(15 : Nat)]? = some (.pointer (some ⟨w.heap.size, 2, none⟩)) := (hon 5 15 rfl).trans (congrArg some (hS 5 (by kernel_rfl)))
      have c0 := hcell (k := 2) (v := .int .i64 r.x1) (hkeep hB HR.out) rfl
      clear hoff hon hS
      refine wpOp_of rfl rfl ?_
      go_simp
      exact hK.out _ _ rfl (Below.refl _ _)
    · intro hS hK
      have g10 : t[(10 : Nat)]? = some (.func (.func 50) #[] #[.pointer (some ⟨w.heap.size + 1 + 1, 0, none⟩)]) := (hon 0 10 rfl).trans (congrArg some (hS 0 (by kernel_rfl)))
      have g12 : t[(12 : Nat)]? = some (.int .i64 px) := (hon 2 12 rfl).trans (congrArg some (hS 2 (by kernel_rfl)))
      have g14 : t[(14 : Nat)]? = some (.int .i64 r.x0) := (hon 4 14 rfl).trans (congrArg some (hS 4 (by kernel_rfl)))
      have g16 : t[(16 : Nat)]? = some (.int .i64 r.x1) := (hon 6 16 rfl).trans (congrArg some (hS 6 (by kernel_rfl)))
      clear hoff hon hS
      refine wpOp_of rfl rfl ?_
      go_simp
      go_at_call 50
      refine (C1.out _ _ (hkeep hB HF.out)).mono ?_
      rintro e wz ⟨rfl, hbz⟩
      (try go_simp)
      exact hK.out _ _ rfl hbz
    · intro hS hK
      have g6 : t[(6 : Nat)]? = some (.func (.func 50) #[] #[.pointer (some ⟨w.heap.size + 1 + 1, 0, none⟩)]) := hoff 6 _ rfl rfl
      clear hoff hon hS
      refine wpOp_of rfl rfl ?_
      go_simp
      exact hK.out _ _ rfl (Below.refl _ _)
    · intro hS hK
      have g3 : t[(3 : Nat)]? = some (.pointer (some ⟨w.heap.size + 1, 0, none⟩)) := hoff 3 _ rfl rfl
      clear hoff hon hS
      refine wpOp_of rfl rfl ?_
      go_simp
      exact hK.out _ _ rfl (Below.refl _ _)
    · intro hS hK
      have g19 : t[(19 : Nat)]? = some (.pointer (some ⟨w.heap.size + 1, 1, none⟩)) := (hon 9 19 rfl).trans (congrArg some (hS 9 (by kernel_rfl)))
      have c0 := hcell (k := 1) (v := .int .i64 pz) (hkeep hB HQ.out) rfl
      clear hoff hon hS
      refine wpOp_of rfl rfl ?_
      go_simp
      exact hK.out _ _ rfl (Below.refl _ _)
    · intro hS hK
      have g2 : t[(2 : Nat)]? = some (.pointer (some ⟨w.heap.size, 0, none⟩)) := hoff 2 _ rfl rfl
      clear hoff hon hS
      refine wpOp_of rfl rfl ?_
      go_simp
      exact hK.out _ _ rfl (Below.refl _ _)
    · intro hS hK
      have g21 : t[(21 : Nat)]? = some (.pointer (some ⟨w.heap.size, 1, none⟩)) := (hon 11 21 rfl).trans (congrArg some (hS 11 (by kernel_rfl)))
      have c0 := hcell (k := 1) (v := .int .i64 r.z0) (hkeep hB HR.out) rfl
      clear hoff hon hS
      refine wpOp_of rfl rfl ?_
      go_simp
      exact hK.out _ _ rfl (Below.refl _ _)
    · intro hS hK
      have g2 : t[(2 : Nat)]? = some (.pointer (some ⟨w.heap.size, 0, none⟩)) := hoff 2 _ rfl rfl
      clear hoff hon hS
      refine wpOp_of rfl rfl ?_
      go_simp
      exact hK.out _ _ rfl (Below.refl _ _)
    · intro hS hK
      have g23 : t[(23 : Nat)]? = some (.pointer (some ⟨w.heap.size, 3, none⟩)) := (hon 13 23 rfl).trans (congrArg some (hS 13 (by kernel_rfl)))
      have c0 := hcell (k := 3) (v := .int .i64 r.z1) (hkeep hB HR.out) rfl
      clear hoff hon hS
      refine wpOp_of rfl rfl ?_
      go_simp
      exact hK.out _ _ rfl (Below.refl _ _)
    · intro hS hK
      have g18 : t[(18 : Nat)]? = some (.func (.func 50) #[] #[.pointer (some ⟨w.heap.size + 1 + 1, 0, none⟩)]) := (hon 8 18 rfl).trans (congrArg some (hS 8 (by kernel_rfl)))
      have g20 : t[(20 : Nat)]? = some (.int .i64 pz) := (hon 10 20 rfl).trans (congrArg some (hS 10 (by kernel_rfl)))
      have g22 : t[(22 : Nat)]? = some (.int .i64 r.z0) := (hon 12 22 rfl).trans (congrArg some (hS 12 (by kernel_rfl)))
      have g24 : t[(24 : Nat)]? = some (.int .i64 r.z1) := (hon 14 24 rfl).trans (congrArg some (hS 14 (by kernel_rfl)))
      clear hoff hon hS
      refine wpOp_of rfl rfl ?_
      go_simp
      go_at_call 50
      refine (C2.out _ _ (hkeep hB HF.out)).mono ?_
      rintro e wz ⟨rfl, hbz⟩
      (try go_simp)
      exact hK.out _ _ rfl hbz
    · intro hS hK
      have g17 : t[(17 : Nat)]? = some (.int .i64 X) := (hon 7 17 rfl).trans (congrArg some (hS 7 (by kernel_rfl)))
      clear hoff hon hS
      refine wpOp_of rfl rfl ?_
      go_simp
      exact hK.out _ _ rfl (Below.refl _ _)
    · intro hS hK
      have g25 : t[(25 : Nat)]? = some (.int .i64 Z) := (hon 15 25 rfl).trans (congrArg some (hS 15 (by kernel_rfl)))
      clear hoff hon hS
      refine wpOp_of rfl rfl ?_
      go_simp
      exact hK.out _ _ rfl (Below.refl _ _)
  · intro vals wi hB hS
    have e0 : vals 0 = .func (.func 50) #[] #[.pointer (some ⟨w.heap.size + 1 + 1, 0, none⟩)] := hS 0 (by decide)
    have e1 : vals 1 = .pointer (some ⟨w.heap.size + 1, 0, none⟩) := hS 1 (by decide)
    have e2 : vals 2 = .int .i64 px := hS 2 (by decide)
    have e3 : vals 3 = .pointer (some ⟨w.heap.size, 0, none⟩) := hS 3 (by decide)
    have e4 : vals 4 = .int .i64 r.x0 := hS 4 (by decide)
    have e5 : vals 5 = .pointer (some ⟨w.heap.size, 2, none⟩) := hS 5 (by decide)
    have e6 : vals 6 = .int .i64 r.x1 := hS 6 (by decide)
    have e7 : vals 7 = .int .i64 X := hS 7 (by decide)
    have e8 : vals 8 = .func (.func 50) #[] #[.pointer (some ⟨w.heap.size + 1 + 1, 0, none⟩)] := hS 8 (by decide)
    have e9 : vals 9 = .pointer (some ⟨w.heap.size + 1, 1, none⟩) := hS 9 (by decide)
    have e10 : vals 10 = .int .i64 pz := hS 10 (by decide)
    have e11 : vals 11 = .pointer (some ⟨w.heap.size, 1, none⟩) := hS 11 (by decide)
    have e12 : vals 12 = .int .i64 r.z0 := hS 12 (by decide)
    have e13 : vals 13 = .pointer (some ⟨w.heap.size, 3, none⟩) := hS 13 (by decide)
    have e14 : vals 14 = .int .i64 r.z1 := hS 14 (by decide)
    have e15 : vals 15 = .int .i64 Z := hS 15 (by decide)
    have e16 : vals 16 = .int .i64 X := hS 16 (by decide)
    have e17 : vals 17 = .int .i64 Z := hS 17 (by decide)
    clear hS
    dsimp only [over]
    rw [e16, e17]
    clear e0 e1 e2 e3 e4 e5 e6 e7 e8 e9 e10 e11 e12 e13 e14 e15 e16 e17
    go_wp2
    go_ret
    exact HO.out _ (hB0.out.trans (hB.mono hB0.out.size))
end Go.Proofs.Ytgfmdgiepomkiaa
