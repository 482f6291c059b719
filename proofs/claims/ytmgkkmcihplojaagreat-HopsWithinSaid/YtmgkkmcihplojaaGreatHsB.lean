/- Walks: soup.AddHop at a soup of nothing: own, put, edit. -/
import Derived.Test.YtmgkkmcihplojaaGreatHsA
import Derived.Test.YtmgkkmcihplojaaGreatRctC
namespace Go.Proofs.YtmgkkmcihplojaaGreat
open Go.RowKit Go.Sort
attribute [local go_sem] Instr.index

set_option maxRecDepth 100000 in
set_option maxHeartbeats 8000000 in
theorem hown_any (w : World) : Calls Tryz.prog 53 #[.agg #[.slice none 0 0, .slice none 0 0, .slice none 0 0]] w fun e w' => e = .returned (.agg #[.slice none 0 0, .slice none 0 0, .slice none 0 0]) ∧ Below w.heap.size w w' := by
  have C1 := Lib.hid (fun W => hcloneTri_any W)
  have C2 := Lib.hid (fun W => hcloneBox_any W)
  have C3 := Lib.hid (fun W => hcloneHop_any W)
  have hB : Below w.heap.size w ((w.alloc (.cells #[.slice none 0 0, .slice none 0 0, .slice none 0 0] 59 (0, 0))).alloc (.cells #[.slice none 0 0, .slice none 0 0, .slice none 0 0] 59 (0, 0))) := ((Below.refl _ _).alloc (Nat.le_refl _) _).alloc (by simp) _
  have hS := halloc (World.alloc_heap_new w (.cells #[.slice none 0 0, .slice none 0 0, .slice none 0 0] 59 (0, 0))) (.cells #[.slice none 0 0, .slice none 0 0, .slice none 0 0] 59 (0, 0))
  have hT := World.alloc_heap_new (w.alloc (.cells #[.slice none 0 0, .slice none 0 0, .slice none 0 0] 59 (0, 0))) (.cells #[.slice none 0 0, .slice none 0 0, .slice none 0 0] 59 (0, 0))
  rw [World.size_alloc] at hT
  obtain ⟨W1, hW1⟩ : ∃ W, W = (w.alloc (.cells #[.slice none 0 0, .slice none 0 0, .slice none 0 0] 59 (0, 0))).alloc (.cells #[.slice none 0 0, .slice none 0 0, .slice none 0 0] 59 (0, 0)) := ⟨_, rfl⟩
  obtain ⟨S0, hS0⟩ : ∃ S, S = w.heap.size := ⟨_, rfl⟩
  obtain ⟨S1, hS1⟩ : ∃ S, S = S0 + 1 := ⟨_, rfl⟩
  rw [← hW1] at hB hS hT
  rw [← hS0] at hS hT
  rw [← hS1] at hT
  go_enter Tryz.func53, Tryz.ntmps53
  go_upto_region 1 with fail
  rw [← hW1, ← hS0, ← hS1]
  clear hW1 hS0 hS1
  refine wp_region_fun ([none, none, none, some 0, some 1, some 2, some 3, some 4, some 5, some 6, some 7, some 8, some 9]) (fun (b : Nat → Bool) (vals : Nat → Value) (W : World) => Below w.heap.size w W ∧ W.heap[S0]? = some (.cells #[.slice none 0 0, .slice none 0 0, .slice none 0 0] 59 (0, 0)) ∧ W.heap[S1]? = some (.cells #[.slice none 0 0, .slice none 0 0, .slice none 0 0] 59 (0, 0)) ∧ (b 0 = true → vals 0 = .pointer (some ⟨S0, 0, none⟩)) ∧ (b 1 = true → vals 1 = .slice none 0 0) ∧ (b 2 = true → vals 2 = .slice none 0 0) ∧ (b 3 = true → vals 3 = .pointer (some ⟨S0, 1, none⟩)) ∧ (b 4 = true → vals 4 = .slice none 0 0) ∧ (b 5 = true → vals 5 = .slice none 0 0) ∧ (b 6 = true → vals 6 = .pointer (some ⟨S0, 2, none⟩)) ∧ (b 7 = true → vals 7 = .slice none 0 0) ∧ (b 8 = true → vals 8 = .slice none 0 0) ∧ (b 9 = true → vals 9 = .agg #[.slice none 0 0, .slice none 0 0, .slice none 0 0])) (by kernel_rfl) (by kernel_rfl) (by kernel_rfl) (by kernel_rfl) ?_ ?_ ?_
  · intro vals
    exact ⟨hB.drew, hS, hT, (fun h => by cases (show false = true from h)), (fun h => by cases (show false = true from h)), (fun h => by cases (show false = true from h)), (fun h => by cases (show false = true from h)), (fun h => by cases (show false = true from h)), (fun h => by cases (show false = true from h)), (fun h => by cases (show false = true from h)), (fun h => by cases (show false = true from h)), (fun h => by cases (show false = true from h)), (fun h => by cases (show false = true from h))⟩
  · intro Q' K t b vals wi hoff hon i hlt hR hb hd hK
    have hlt : i < 11 := hlt
    obtain ⟨hW, hS, hT, h0, h1, h2, h3, h4, h5, h6, h7, h8, h9⟩ := hR
    revert hb hd hK
    cases i, hlt using cas11
    · intro hb hd hK
      have g1 : t[(1 : Nat)]? = some (.pointer (some ⟨S0, 0, none⟩)) := hoff 1 _ rfl rfl
      clear hoff hon hd
      refine wpOp_of rfl rfl ?_
      go_simp
      exact hK.out _ _ ⟨(hW), (hS), (hT), (fun _ => rfl), (h1), (h2), (h3), (h4), (h5), (h6), (h7), (h8), (h9)⟩
    · intro hb hd hK
      have d0 := hd 0 (by kernel_rfl)
      have g3 : t[(3 : Nat)]? = some (.pointer (some ⟨S0, 0, none⟩)) := (hon 0 3 rfl).trans (congrArg some (h0 d0))
      have c0 := hcell (k := 0) (v := .slice none 0 0) hS rfl
      clear hoff hon hd
      refine wpOp_of rfl rfl ?_
      go_simp
      exact hK.out _ _ ⟨(hW), (hS), (hT), (h0), (fun _ => rfl), (h2), (h3), (h4), (h5), (h6), (h7), (h8), (h9)⟩
    · intro hb hd hK
      have d1 := hd 1 (by kernel_rfl)
      have g4 : t[(4 : Nat)]? = some (.slice none 0 0) := (hon 1 4 rfl).trans (congrArg some (h1 d1))
      clear hoff hon hd
      refine wpOp_of rfl rfl ?_
      go_simp
      go_at_call 78
      refine (C1.out _).mono ?_
      rintro e wz ⟨rfl, hbz⟩
      (try go_simp)
      exact hK.out _ _ ⟨(hW.trans (hbz.mono hW.size)), (hkeep hbz hS), (hkeep hbz hT), (h0), (h1), (fun _ => rfl), (h3), (h4), (h5), (h6), (h7), (h8), (h9)⟩
    · intro hb hd hK
      have g1 : t[(1 : Nat)]? = some (.pointer (some ⟨S0, 0, none⟩)) := hoff 1 _ rfl rfl
      clear hoff hon hd
      refine wpOp_of rfl rfl ?_
      go_simp
      exact hK.out _ _ ⟨(hW), (hS), (hT), (h0), (h1), (h2), (fun _ => rfl), (h4), (h5), (h6), (h7), (h8), (h9)⟩
    · intro hb hd hK
      have d3 := hd 3 (by kernel_rfl)
      have g6 : t[(6 : Nat)]? = some (.pointer (some ⟨S0, 1, none⟩)) := (hon 3 6 rfl).trans (congrArg some (h3 d3))
      have c0 := hcell (k := 1) (v := .slice none 0 0) hS rfl
      clear hoff hon hd
      refine wpOp_of rfl rfl ?_
      go_simp
      exact hK.out _ _ ⟨(hW), (hS), (hT), (h0), (h1), (h2), (h3), (fun _ => rfl), (h5), (h6), (h7), (h8), (h9)⟩
    · intro hb hd hK
      have d4 := hd 4 (by kernel_rfl)
      have g7 : t[(7 : Nat)]? = some (.slice none 0 0) := (hon 4 7 rfl).trans (congrArg some (h4 d4))
      clear hoff hon hd
      refine wpOp_of rfl rfl ?_
      go_simp
      go_at_call 79
      refine (C2.out _).mono ?_
      rintro e wz ⟨rfl, hbz⟩
      (try go_simp)
      exact hK.out _ _ ⟨(hW.trans (hbz.mono hW.size)), (hkeep hbz hS), (hkeep hbz hT), (h0), (h1), (h2), (h3), (h4), (fun _ => rfl), (h6), (h7), (h8), (h9)⟩
    · intro hb hd hK
      have g1 : t[(1 : Nat)]? = some (.pointer (some ⟨S0, 0, none⟩)) := hoff 1 _ rfl rfl
      clear hoff hon hd
      refine wpOp_of rfl rfl ?_
      go_simp
      exact hK.out _ _ ⟨(hW), (hS), (hT), (h0), (h1), (h2), (h3), (h4), (h5), (fun _ => rfl), (h7), (h8), (h9)⟩
    · intro hb hd hK
      have d6 := hd 6 (by kernel_rfl)
      have g9 : t[(9 : Nat)]? = some (.pointer (some ⟨S0, 2, none⟩)) := (hon 6 9 rfl).trans (congrArg some (h6 d6))
      have c0 := hcell (k := 2) (v := .slice none 0 0) hS rfl
      clear hoff hon hd
      refine wpOp_of rfl rfl ?_
      go_simp
      exact hK.out _ _ ⟨(hW), (hS), (hT), (h0), (h1), (h2), (h3), (h4), (h5), (h6), (fun _ => rfl), (h8), (h9)⟩
    · intro hb hd hK
      have d7 := hd 7 (by kernel_rfl)
      have g10 : t[(10 : Nat)]? = some (.slice none 0 0) := (hon 7 10 rfl).trans (congrArg some (h7 d7))
      clear hoff hon hd
      refine wpOp_of rfl rfl ?_
      go_simp
      go_at_call 38
      refine (C3.out _).mono ?_
      rintro e wz ⟨rfl, hbz⟩
      (try go_simp)
      exact hK.out _ _ ⟨(hW.trans (hbz.mono hW.size)), (hkeep hbz hS), (hkeep hbz hT), (h0), (h1), (h2), (h3), (h4), (h5), (h6), (h7), (fun _ => rfl), (h9)⟩
    · intro hb hd hK
      have d2 := hd 2 (by kernel_rfl)
      have g5 : t[(5 : Nat)]? = some (.slice none 0 0) := (hon 2 5 rfl).trans (congrArg some (h2 d2))
      have d5 := hd 5 (by kernel_rfl)
      have g8 : t[(8 : Nat)]? = some (.slice none 0 0) := (hon 5 8 rfl).trans (congrArg some (h5 d5))
      have d8 := hd 8 (by kernel_rfl)
      have g11 : t[(11 : Nat)]? = some (.slice none 0 0) := (hon 8 11 rfl).trans (congrArg some (h8 d8))
      clear hoff hon hd
      refine wpOp_of rfl rfl ?_
      go_simp
      exact hK.out _ _ ⟨(hW), (hS), (hT), (h0), (h1), (h2), (h3), (h4), (h5), (h6), (h7), (h8), (fun _ => rfl)⟩
    · intro hb hd hK
      have g2 : t[(2 : Nat)]? = some (.pointer (some ⟨S1, 0, none⟩)) := hoff 2 _ rfl rfl
      have d9 := hd 9 (by kernel_rfl)
      have g12 : t[(12 : Nat)]? = some (.agg #[.slice none 0 0, .slice none 0 0, .slice none 0 0]) := (hon 9 12 rfl).trans (congrArg some (h9 d9))
      have z0 := hcell (k := 0) (v := .slice none 0 0) hT rfl
      have x0 := hfroz (k := 0) hT
      have i0 := setCell_idH (v := .slice none 0 0) (i := 0) hT rfl
      have z1 := hcell (k := 1) (v := .slice none 0 0) hT rfl
      have x1 := hfroz (k := 1) hT
      have i1 := setCell_idH (v := .slice none 0 0) (i := 1) hT rfl
      have z2 := hcell (k := 2) (v := .slice none 0 0) hT rfl
      have x2 := hfroz (k := 2) hT
      have i2 := setCell_idH (v := .slice none 0 0) (i := 2) hT rfl
      clear hoff hon hd
      refine wpOp_of rfl rfl ?_
      go_simp
      exact hK.out undef _ ⟨(hW), (hS), (hT), (h0), (h1), (h2), (h3), (h4), (h5), (h6), (h7), (h8), (h9)⟩
  · intro b vals wi hR hall
    obtain ⟨hW, hS, hT, h0, h1, h2, h3, h4, h5, h6, h7, h8, h9⟩ := hR
    clear h0 h1 h2 h3 h4 h5 h6 h7 h8 h9 hall hS
    go_wp2
    refine bodyPost_ret (results_c1h rfl _ _ S1 59 #[.slice none 0 0, .slice none 0 0, .slice none 0 0] (0, 0) _ rfl hT Tryz.underlying59 rfl (by kernel_rfl)) rfl ?_
    exact ⟨rfl, hW⟩
set_option maxRecDepth 100000 in
set_option maxHeartbeats 8000000 in
theorem haddc_any (cf : Cfg) (h : Hp) (C H : Nat) (w : World) (hC : w.heap[C]? = some (cfO cf)) (hH : w.heap[H]? = some (.cells #[.int .i64 h.id, .int .i64 h.a.x, .int .i64 h.a.z, .int .i64 h.a.y, .int .i64 h.b.x, .int .i64 h.b.z, .int .i64 h.b.y, .bool h.both, .int .i64 h.area, .int .i64 h.cost] 46 (0, 0))) (hok : (idOk h.id && hpOk cf.w cf.d h) = true) :
    Calls Tryz.prog 21 #[.slice none 0 0, .pointer (some ⟨C, 0, none⟩), .pointer (some ⟨H, 0, none⟩)] w (AdPost w) := by
  have HP := Lib.hid (fun W => hops_any cf W)
  have AD := Lib.hid (fun v W hv => hadd_any cf h v W hv hok)
  unfold AdPost at AD
  have HC := Lib.hid hC
  have HH := Lib.hid hH
  clear hC hH hok
  dsimp only [cfO, cfgV, hpC] at HC HP AD ⊢
  have hB := Below.refl w.heap.size w
  have HB := Lib.hid hB
  clear hB
  go_enter Tryz.func21, Tryz.ntmps21
  go_upto_region 1 with fail
  refine wp_region_det ([none, none, none, none, some 7, some 8, some 0, some 1, some 2, some 3, some 4, some 5, some 6]) [fun v _ => v = .agg #[.int .i64 cf.clear, .int .i64 cf.climb, .int .i64 cf.height, .int .i64 cf.rise, .int .i64 cf.run, .int .i64 cf.w, .int .i64 cf.d],
        fun v W => HoAt cf v W,
        fun v _ => v = .slice none 0 0,
        fun v _ => v = .agg #[.int .i64 h.id, .int .i64 h.a.x, .int .i64 h.a.z, .int .i64 h.a.y, .int .i64 h.b.x, .int .i64 h.b.z, .int .i64 h.b.y, .bool h.both, .int .i64 h.area, .int .i64 h.cost],
        fun v _ => ∃ a n c, v = .tuple #[.slice a n c, .int .i64 0],
        fun v _ => ∃ a n c, v = .slice a n c,
        fun v _ => v = .int .i64 0,
        fun v _ => ∃ a n c, v = .slice a n c,
        fun v _ => v = .int .i64 0] (by kernel_rfl) (by kernel_rfl) (by kernel_rfl) (by kernel_rfl) ?_ ?_ ?_
  · refine List.forall_mem_cons.2 ⟨fun _ _ _ h _ => h, List.forall_mem_cons.2 ⟨fun v w w2 hh hb => hh.below hb, List.forall_mem_cons.2 ⟨fun _ _ _ h _ => h, List.forall_mem_cons.2 ⟨fun _ _ _ h _ => h, List.forall_mem_cons.2 ⟨fun _ _ _ h _ => h, List.forall_mem_cons.2 ⟨fun _ _ _ h _ => h, List.forall_mem_cons.2 ⟨fun _ _ _ h _ => h, List.forall_mem_cons.2 ⟨fun _ _ _ h _ => h, List.forall_mem_cons.2 ⟨fun _ _ _ h _ => h, List.forall_mem_nil _⟩⟩⟩⟩⟩⟩⟩⟩⟩
  · intro Q' K t vals wi hoff hon hB i hlt
    have hlt : i < 9 := hlt
    cases i, hlt using cas9
    · intro hS hK
      have g1 : t[(1 : Nat)]? = some (.pointer (some ⟨C, 0, none⟩)) := hoff 1 _ rfl rfl
      have hR := hkeep hB HC.out
      have c0 := hcell (k := 0) (v := .int .i64 cf.clear) hR rfl
      have c1 := hcell (k := 1) (v := .int .i64 cf.climb) hR rfl
      have c2 := hcell (k := 2) (v := .int .i64 cf.height) hR rfl
      have c3 := hcell (k := 3) (v := .int .i64 cf.rise) hR rfl
      have c4 := hcell (k := 4) (v := .int .i64 cf.run) hR rfl
      have c5 := hcell (k := 5) (v := .int .i64 cf.w) hR rfl
      have c6 := hcell (k := 6) (v := .int .i64 cf.d) hR rfl
      clear hoff hon hS
      refine wpOp_of rfl rfl ?_
      go_simp
      exact hK.out _ _ rfl (Below.refl _ _)
    · intro hS hK
      have g6 : t[(6 : Nat)]? = some (.agg #[.int .i64 cf.clear, .int .i64 cf.climb, .int .i64 cf.height, .int .i64 cf.rise, .int .i64 cf.run, .int .i64 cf.w, .int .i64 cf.d]) := (hon 0 6 rfl).trans (congrArg some (hS 0 (by kernel_rfl)))
      clear hoff hon hS
      refine wpOp_of rfl rfl ?_
      go_simp
      go_at_call 22
      refine (HP.out _).mono ?_
      rintro e wz ⟨rfl, k1, k2, k3, hbz⟩
      (try go_simp)
      exact hK.out _ _ ⟨_, _, rfl, k1, k2, k3⟩ hbz
    · intro hS hK
      have g0 : t[(0 : Nat)]? = some (.slice none 0 0) := hoff 0 _ rfl rfl
      clear hoff hon hS
      refine wpOp_of rfl rfl ?_
      go_simp
      exact hK.out _ _ rfl (Below.refl _ _)
    · intro hS hK
      have g2 : t[(2 : Nat)]? = some (.pointer (some ⟨H, 0, none⟩)) := hoff 2 _ rfl rfl
      have hR := hkeep hB HH.out
      have c0 := hcell (k := 0) (v := .int .i64 h.id) hR rfl
      have c1 := hcell (k := 1) (v := .int .i64 h.a.x) hR rfl
      have c2 := hcell (k := 2) (v := .int .i64 h.a.z) hR rfl
      have c3 := hcell (k := 3) (v := .int .i64 h.a.y) hR rfl
      have c4 := hcell (k := 4) (v := .int .i64 h.b.x) hR rfl
      have c5 := hcell (k := 5) (v := .int .i64 h.b.z) hR rfl
      have c6 := hcell (k := 6) (v := .int .i64 h.b.y) hR rfl
      have c7 := hcell (k := 7) (v := .bool h.both) hR rfl
      have c8 := hcell (k := 8) (v := .int .i64 h.area) hR rfl
      have c9 := hcell (k := 9) (v := .int .i64 h.cost) hR rfl
      clear hoff hon hS
      refine wpOp_of rfl rfl ?_
      go_simp
      exact hK.out _ _ rfl (Below.refl _ _)
    · intro hS hK
      have g7 : t[(7 : Nat)]? = some (vals 1) := hon 1 7 rfl
      have p7 : (fun v W => HoAt cf v W) (vals 1) wi := hS 1 (by kernel_rfl)
      dsimp only at p7
      have g8 : t[(8 : Nat)]? = some (.slice none 0 0) := (hon 2 8 rfl).trans (congrArg some (hS 2 (by kernel_rfl)))
      have g9 : t[(9 : Nat)]? = some (.agg #[.int .i64 h.id, .int .i64 h.a.x, .int .i64 h.a.z, .int .i64 h.a.y, .int .i64 h.b.x, .int .i64 h.b.z, .int .i64 h.b.y, .bool h.both, .int .i64 h.area, .int .i64 h.cost]) := (hon 3 9 rfl).trans (congrArg some (hS 3 (by kernel_rfl)))
      clear hoff hon hS
      refine wpOp_of rfl rfl ?_
      go_simp
      go_at_call 23
      refine (AD.out _ _ p7).mono ?_
      rintro e wz ⟨⟨xa, xn, xc, rfl⟩, hbz⟩
      (try go_simp)
      exact hK.out _ _ ⟨xa, xn, xc, rfl⟩ hbz
    · intro hS hK
      have g10 : t[(10 : Nat)]? = some (vals 4) := hon 4 10 rfl
      have p10 : (fun v _ => ∃ a n c, v = .tuple #[.slice a n c, .int .i64 0]) (vals 4) wi := hS 4 (by kernel_rfl)
      dsimp only at p10
      obtain ⟨xa, xn, xc, e10⟩ := p10
      rw [e10] at g10
      clear hoff hon hS
      refine wpOp_of rfl rfl ?_
      go_simp
      exact hK.out _ _ ⟨xa, xn, xc, rfl⟩ (Below.refl _ _)
    · intro hS hK
      have g10 : t[(10 : Nat)]? = some (vals 4) := hon 4 10 rfl
      have p10 : (fun v _ => ∃ a n c, v = .tuple #[.slice a n c, .int .i64 0]) (vals 4) wi := hS 4 (by kernel_rfl)
      dsimp only at p10
      obtain ⟨xa, xn, xc, e10⟩ := p10
      rw [e10] at g10
      clear hoff hon hS
      refine wpOp_of rfl rfl ?_
      go_simp
      exact hK.out _ _ rfl (Below.refl _ _)
    · intro hS hK
      have g11 : t[(11 : Nat)]? = some (vals 5) := hon 5 11 rfl
      have p11 : (fun v _ => ∃ a n c, v = .slice a n c) (vals 5) wi := hS 5 (by kernel_rfl)
      dsimp only at p11
      clear hoff hon hS
      refine wpOp_of rfl rfl ?_
      go_simp
      exact hK.out _ _ p11 (Below.refl _ _)
    · intro hS hK
      have g12 : t[(12 : Nat)]? = some (.int .i64 0) := (hon 6 12 rfl).trans (congrArg some (hS 6 (by kernel_rfl)))
      clear hoff hon hS
      refine wpOp_of rfl rfl ?_
      go_simp
      exact hK.out _ _ rfl (Below.refl _ _)
  · intro vals wi hB hS
    have e0 : vals 0 = .agg #[.int .i64 cf.clear, .int .i64 cf.climb, .int .i64 cf.height, .int .i64 cf.rise, .int .i64 cf.run, .int .i64 cf.w, .int .i64 cf.d] := hS 0 (by decide)
    have p1 : (fun v W => HoAt cf v W) (vals 1) wi := hS 1 (by decide)
    dsimp only at p1
    have e2 : vals 2 = .slice none 0 0 := hS 2 (by decide)
    have e3 : vals 3 = .agg #[.int .i64 h.id, .int .i64 h.a.x, .int .i64 h.a.z, .int .i64 h.a.y, .int .i64 h.b.x, .int .i64 h.b.z, .int .i64 h.b.y, .bool h.both, .int .i64 h.area, .int .i64 h.cost] := hS 3 (by decide)
    have p4 : (fun v _ => ∃ a n c, v = .tuple #[.slice a n c, .int .i64 0]) (vals 4) wi := hS 4 (by decide)
    dsimp only at p4
    have p5 : (fun v _ => ∃ a n c, v = .slice a n c) (vals 5) wi := hS 5 (by decide)
    dsimp only at p5
    have e6 : vals 6 = .int .i64 0 := hS 6 (by decide)
    have p7 : (fun v _ => ∃ a n c, v = .slice a n c) (vals 7) wi := hS 7 (by decide)
    dsimp only at p7
    have e8 : vals 8 = .int .i64 0 := hS 8 (by decide)
    clear hS
    dsimp only [over]
    obtain ⟨xa, xn, xc, e4⟩ := p7
    rw [e4, e8]
    clear e0 p1 e2 e3 p4 p5 e6 e4 e8
    go_wp2
    go_ret2
    exact And.intro ⟨xa, xn, xc, rfl⟩ hB
/-- Some soup and no error are told. -/
def SpPost (w : World) (e : Ending) (w' : World) : Prop := (∃ a n c, e = .returned (.tuple #[.agg #[.slice none 0 0, .slice none 0 0, .slice a n c], .int .i64 0])) ∧ Below w.heap.size w w'
theorem hof_any (S : Nat) (w : World) : Calls Tryz.prog 20 #[.pointer (some ⟨S, 0, none⟩)] w fun e w' => e = .returned (.pointer (some ⟨S, 2, none⟩)) ∧ w' = w := by
  go_enter Tryz.func20, Tryz.ntmps20
  go_wp2
  go_ret
  exact ⟨rfl, rfl⟩
abbrev addcV (C H : Nat) : Value := .func (.func 21) #[] #[.pointer (some ⟨C, 0, none⟩), .pointer (some ⟨H, 0, none⟩)]
abbrev ofV : Value := .func (.func 20) #[] #[]
set_option maxRecDepth 100000 in
set_option maxHeartbeats 8000000 in
theorem hput_any (cf : Cfg) (h : Hp) (C H : Nat) (w : World) (hC : w.heap[C]? = some (cfO cf)) (hH : w.heap[H]? = some (.cells #[.int .i64 h.id, .int .i64 h.a.x, .int .i64 h.a.z, .int .i64 h.a.y, .int .i64 h.b.x, .int .i64 h.b.z, .int .i64 h.b.y, .bool h.both, .int .i64 h.area, .int .i64 h.cost] 46 (0, 0))) (hok : (idOk h.id && hpOk cf.w cf.d h) = true) :
    Calls Tryz.prog 29 #[.agg #[.slice none 0 0, .slice none 0 0, .slice none 0 0], ofV, addcV C H] w (SpPost w) := by
  have OW := Lib.hid (fun W => hown_any W)
  have OF := Lib.hid (fun S W => hof_any S W)
  have CH := Lib.hid (fun W (hb : Below w.heap.size w W) => haddc_any cf h C H W (hkeep hb hC) (hkeep hb hH) hok)
  unfold AdPost at CH
  clear hC hH hok
  have hB : Below w.heap.size w ((w.alloc (.cells #[.slice none 0 0, .slice none 0 0, .slice none 0 0] 59 (0, 0))).alloc (.cells #[.slice none 0 0, .slice none 0 0, .slice none 0 0] 59 (0, 0))) := ((Below.refl _ _).alloc (Nat.le_refl _) _).alloc (by simp) _
  have hS := halloc (World.alloc_heap_new w (.cells #[.slice none 0 0, .slice none 0 0, .slice none 0 0] 59 (0, 0))) (.cells #[.slice none 0 0, .slice none 0 0, .slice none 0 0] 59 (0, 0))
  have hT := World.alloc_heap_new (w.alloc (.cells #[.slice none 0 0, .slice none 0 0, .slice none 0 0] 59 (0, 0))) (.cells #[.slice none 0 0, .slice none 0 0, .slice none 0 0] 59 (0, 0))
  rw [World.size_alloc] at hT
  obtain ⟨W1, hW1⟩ : ∃ W, W = (w.alloc (.cells #[.slice none 0 0, .slice none 0 0, .slice none 0 0] 59 (0, 0))).alloc (.cells #[.slice none 0 0, .slice none 0 0, .slice none 0 0] 59 (0, 0)) := ⟨_, rfl⟩
  obtain ⟨S0, hS0⟩ : ∃ S, S = w.heap.size := ⟨_, rfl⟩
  obtain ⟨S1, hS1⟩ : ∃ S, S = S0 + 1 := ⟨_, rfl⟩
  rw [← hW1] at hB hS hT
  rw [← hS0] at hS hT
  rw [← hS1] at hT
  have hw0 : w.heap.size ≤ S0 := by omega
  have hw1 : w.heap.size ≤ S1 := by omega
  have h01 : S1 ≠ S0 := by omega
  go_enter Tryz.func29, Tryz.ntmps29
  go_upto_region 1 with fail
  rw [← hW1, ← hS0, ← hS1]
  clear hW1 hS0 hS1
  have c0 := hcell (k := 0) (v := .slice none 0 0) hS rfl
  have c1 := hcell (k := 1) (v := .slice none 0 0) hS rfl
  have c2 := hcell (k := 2) (v := .slice none 0 0) hS rfl
  go_wp2_with fail
  refine (OW.out _).mono ?_
  rintro e w2 ⟨rfl, hb2⟩
  have hS2 := hkeep hb2 hS
  have hT2 := hkeep hb2 hT
  have hB2 := hB.trans (hb2.mono hB.size)
  clear c0 c1 c2 hS hT hB hb2 OW
  have c0 := hcell (k := 0) (v := .slice none 0 0) hS2 rfl
  have c1 := hcell (k := 1) (v := .slice none 0 0) hS2 rfl
  have c2 := hcell (k := 2) (v := .slice none 0 0) hS2 rfl
  have x0 := hfroz (k := 0) hS2
  have i0 := setCell_idH (v := .slice none 0 0) (i := 0) hS2 rfl
  have x1 := hfroz (k := 1) hS2
  have i1 := setCell_idH (v := .slice none 0 0) (i := 1) hS2 rfl
  have x2 := hfroz (k := 2) hS2
  have i2 := setCell_idH (v := .slice none 0 0) (i := 2) hS2 rfl
  go_wp2_with fail
  refine (OF.out _ _).mono ?_
  rintro e w3 ⟨rfl, rfl⟩
  go_wp2_with fail
  refine (CH.out _ hB2).mono ?_
  rintro e w4 ⟨⟨xa, xn, xc, rfl⟩, hb4⟩
  clear c0 c1 c2 x0 x1 x2 i0 i1 i2
  have hS4 := hkeep hb4 hS2
  have hT4 := hkeep hb4 hT2
  have hB4 := hB2.trans (hb4.mono hB2.size)
  clear hS2 hT2 hB2 hb4
  have x2 := hfroz (k := 2) hS4
  have c2 := hcell (k := 2) (v := .slice none 0 0) hS4 rfl
  have hS5 := heap_setCell_same w4 S0 2 _ _ (.slice xa xn xc) hS4
  have hB5 := hB4.setCell (p := ⟨S0, 2, none⟩) hw0 (.slice xa xn xc)
  have hT5 := hgrown (grown_set w4 S0 2 (.slice xa xn xc)) hT4 (fun e => h01 (Option.some.inj e).symm)
  clear hS4 hB4 hT4
  go_upto_region 7 with fail
  obtain ⟨W5, hW5⟩ : ∃ W, W = w4.setCell ⟨S0, 2, none⟩ (.slice xa xn xc) := ⟨_, rfl⟩
  rw [← hW5] at hS5 hB5 hT5 ⊢
  clear hW5 x2 c2
  replace hS5 : W5.heap[S0]? = some (.cells #[.slice none 0 0, .slice none 0 0, .slice xa xn xc] 59 (0, 0)) := hS5
  have c0 := hcell (k := 0) (v := .slice none 0 0) hS5 rfl
  have c1 := hcell (k := 1) (v := .slice none 0 0) hS5 rfl
  have c2 := hcell (k := 2) (v := .slice xa xn xc) hS5 rfl
  have z0 := hcell (k := 0) (v := .slice none 0 0) hT5 rfl
  have z1 := hcell (k := 1) (v := .slice none 0 0) hT5 rfl
  have z2 := hcell (k := 2) (v := .slice none 0 0) hT5 rfl
  have f0 := hfroz (k := 0) hT5
  have f1 := hfroz (k := 1) hT5
  have f2 := hfroz (k := 2) hT5
  have hT9 := box3_set hT5 (.slice none 0 0) (.slice none 0 0) (.slice xa xn xc)
  have hB9 := hB5.grown (box3_grown (w := W5) (b := S1) (.slice none 0 0) (.slice none 0 0) (.slice xa xn xc)) hB5.size (fun j hj => by cases hj; omega)
  clear hS5 hB5 hT5
  go_wp2
  refine bodyPost_ret (results_c1t rfl _ _ S1 59 #[.slice none 0 0, .slice none 0 0, .slice xa xn xc] (0, 0) _ rfl hT9 Tryz.underlying59 rfl (by kernel_rfl)) rfl ?_
  exact And.intro ⟨_, _, _, rfl⟩ hB9
set_option maxRecDepth 100000 in
set_option maxHeartbeats 8000000 in
theorem hedit_any (cf : Cfg) (h : Hp) (C H : Nat) (w : World) (hC : w.heap[C]? = some (cfO cf)) (hH : w.heap[H]? = some (.cells #[.int .i64 h.id, .int .i64 h.a.x, .int .i64 h.a.z, .int .i64 h.a.y, .int .i64 h.b.x, .int .i64 h.b.z, .int .i64 h.b.y, .bool h.both, .int .i64 h.area, .int .i64 h.cost] 46 (0, 0))) (hcf : cfgOk cf = true) (hok : (idOk h.id && hpOk cf.w cf.d h) = true) :
    Calls Tryz.prog 19 #[cfgV cf, .agg #[.slice none 0 0, .slice none 0 0, .slice none 0 0], ofV, addcV C H] w (SpPost w) := by
  have PU := Lib.hid (fun W (hb : Below w.heap.size w W) => hput_any cf h C H W (hkeep hb hC) (hkeep hb hH) hok)
  unfold SpPost at PU
  have CK := Lib.hid (fun W => soupcheck_any cf ⟨none, 0, 0⟩ ⟨none, 0, 0⟩ ⟨none, 0, 0⟩ ⟨[], [], []⟩ W ⟨SlR.nil _ _ _, SlR.nil _ _ _, SlR.nil _ _ _⟩)
  have hE : soupE cf ⟨[], [], []⟩ = 0 := by unfold soupE; rw [if_pos hcf]; rfl
  rw [hE] at CK
  clear hC hH hok hE hcf
  dsimp only [soupV, SHead.v, cfgV] at CK ⊢
  have hB : Below w.heap.size w (((w.alloc (cfO cf)).alloc (.cells #[.slice none 0 0, .slice none 0 0, .slice none 0 0] 59 (0, 0))).alloc (.cells #[.slice none 0 0, .slice none 0 0, .slice none 0 0] 59 (0, 0))) := (((Below.refl _ _).alloc (Nat.le_refl _) _).alloc (by simp) _).alloc (by simp; omega) _
  have hC := halloc (halloc (World.alloc_heap_new w (cfO cf)) (.cells #[.slice none 0 0, .slice none 0 0, .slice none 0 0] 59 (0, 0))) (.cells #[.slice none 0 0, .slice none 0 0, .slice none 0 0] 59 (0, 0))
  have hS := halloc (World.alloc_heap_new (w.alloc (cfO cf)) (.cells #[.slice none 0 0, .slice none 0 0, .slice none 0 0] 59 (0, 0))) (.cells #[.slice none 0 0, .slice none 0 0, .slice none 0 0] 59 (0, 0))
  have hT := World.alloc_heap_new ((w.alloc (cfO cf)).alloc (.cells #[.slice none 0 0, .slice none 0 0, .slice none 0 0] 59 (0, 0))) (.cells #[.slice none 0 0, .slice none 0 0, .slice none 0 0] 59 (0, 0))
  simp only [World.size_alloc] at hS hT
  obtain ⟨W1, hW1⟩ : ∃ W, W = ((w.alloc (cfO cf)).alloc (.cells #[.slice none 0 0, .slice none 0 0, .slice none 0 0] 59 (0, 0))).alloc (.cells #[.slice none 0 0, .slice none 0 0, .slice none 0 0] 59 (0, 0)) := ⟨_, rfl⟩
  obtain ⟨S0, hS0⟩ : ∃ S, S = w.heap.size := ⟨_, rfl⟩
  obtain ⟨S1, hS1⟩ : ∃ S, S = S0 + 1 := ⟨_, rfl⟩
  obtain ⟨S2, hS2⟩ : ∃ S, S = S1 + 1 := ⟨_, rfl⟩
  rw [← hW1] at hB hC hS hT
  rw [← hS0] at hC hS hT
  rw [← hS1] at hS hT
  rw [← hS2] at hT
  have hw1 : w.heap.size ≤ S2 := by omega
  dsimp only [cfO, cfgV] at hC hW1
  go_enter Tryz.func19, Tryz.ntmps19
  go_upto_region 1 with fail
  rw [← hW1, ← hS0, ← hS1, ← hS2]
  clear hW1 hS0 hS1 hS2
  have c0 := hcell (k := 0) (v := .int .i64 cf.clear) hC rfl
  have c1 := hcell (k := 1) (v := .int .i64 cf.climb) hC rfl
  have c2 := hcell (k := 2) (v := .int .i64 cf.height) hC rfl
  have c3 := hcell (k := 3) (v := .int .i64 cf.rise) hC rfl
  have c4 := hcell (k := 4) (v := .int .i64 cf.run) hC rfl
  have c5 := hcell (k := 5) (v := .int .i64 cf.w) hC rfl
  have c6 := hcell (k := 6) (v := .int .i64 cf.d) hC rfl
  have z0 := hcell (k := 0) (v := .slice none 0 0) hS rfl
  have z1 := hcell (k := 1) (v := .slice none 0 0) hS rfl
  have z2 := hcell (k := 2) (v := .slice none 0 0) hS rfl
  go_wp2_with fail
  refine (CK.out _).mono ?_
  rintro e w2 ⟨rfl, hb2⟩
  have hS2 := hkeep hb2 hS
  have hT2 := hkeep hb2 hT
  have hB2 := hB.trans (hb2.mono hB.size)
  clear c0 c1 c2 c3 c4 c5 c6 z0 z1 z2 hC hS hT hB hb2 CK
  have z0 := hcell (k := 0) (v := .slice none 0 0) hS2 rfl
  have z1 := hcell (k := 1) (v := .slice none 0 0) hS2 rfl
  have z2 := hcell (k := 2) (v := .slice none 0 0) hS2 rfl
  go_wp2_with fail
  refine (PU.out _ hB2).mono ?_
  rintro e w3 ⟨⟨xa, xn, xc, rfl⟩, hb3⟩
  have hT3 := hkeep hb3 hT2
  have hB3 := hB2.trans (hb3.mono hB2.size)
  clear z0 z1 z2 hS2 hT2 hB2 hb3 PU
  have z0 := hcell (k := 0) (v := .slice none 0 0) hT3 rfl
  have z1 := hcell (k := 1) (v := .slice none 0 0) hT3 rfl
  have z2 := hcell (k := 2) (v := .slice none 0 0) hT3 rfl
  have f0 := hfroz (k := 0) hT3
  have f1 := hfroz (k := 1) hT3
  have f2 := hfroz (k := 2) hT3
  have hT9 := box3_set hT3 (.slice none 0 0) (.slice none 0 0) (.slice xa xn xc)
  have hB9 := hB3.grown (box3_grown (w := w3) (b := S2) (.slice none 0 0) (.slice none 0 0) (.slice xa xn xc)) hB3.size (fun j hj => by cases hj; omega)
  clear hT3 hB3
  go_wp2
  refine bodyPost_ret (results_c1t rfl _ _ S2 59 #[.slice none 0 0, .slice none 0 0, .slice xa xn xc] (0, 0) _ rfl hT9 Tryz.underlying59 rfl (by kernel_rfl)) rfl ?_
  exact And.intro ⟨_, _, _, rfl⟩ hB9
set_option maxRecDepth 100000 in
set_option maxHeartbeats 8000000 in
theorem addhop_any (cf : Cfg) (h : Hp) (w : World) (hcf : cfgOk cf = true) (hok : (idOk h.id && hpOk cf.w cf.d h) = true) :
    Calls Tryz.prog 14 #[cfgV cf, .agg #[.slice none 0 0, .slice none 0 0, .slice none 0 0], .agg (hpC h).toArray] w (SpPost w) := by
  have ED := Lib.hid (fun C H W hC hH => hedit_any cf h C H W hC hH hcf hok)
  unfold SpPost at ED
  clear hok hcf
  dsimp only [cfgV, hpC] at ED ⊢
  have hB : Below w.heap.size w ((((w.alloc (cfO cf)).alloc (.cells #[.slice none 0 0, .slice none 0 0, .slice none 0 0] 59 (0, 0))).alloc (.cells #[.int .i64 h.id, .int .i64 h.a.x, .int .i64 h.a.z, .int .i64 h.a.y, .int .i64 h.b.x, .int .i64 h.b.z, .int .i64 h.b.y, .bool h.both, .int .i64 h.area, .int .i64 h.cost] 46 (0, 0))).alloc (.cells #[.slice none 0 0, .slice none 0 0, .slice none 0 0] 59 (0, 0))) := ((((Below.refl _ _).alloc (Nat.le_refl _) _).alloc (by simp) _).alloc (by simp; omega) _).alloc (by simp; omega) _
  have hC := halloc (halloc (halloc (World.alloc_heap_new w (cfO cf)) (.cells #[.slice none 0 0, .slice none 0 0, .slice none 0 0] 59 (0, 0))) (.cells #[.int .i64 h.id, .int .i64 h.a.x, .int .i64 h.a.z, .int .i64 h.a.y, .int .i64 h.b.x, .int .i64 h.b.z, .int .i64 h.b.y, .bool h.both, .int .i64 h.area, .int .i64 h.cost] 46 (0, 0))) (.cells #[.slice none 0 0, .slice none 0 0, .slice none 0 0] 59 (0, 0))
  have hS := halloc (halloc (World.alloc_heap_new (w.alloc (cfO cf)) (.cells #[.slice none 0 0, .slice none 0 0, .slice none 0 0] 59 (0, 0))) (.cells #[.int .i64 h.id, .int .i64 h.a.x, .int .i64 h.a.z, .int .i64 h.a.y, .int .i64 h.b.x, .int .i64 h.b.z, .int .i64 h.b.y, .bool h.both, .int .i64 h.area, .int .i64 h.cost] 46 (0, 0))) (.cells #[.slice none 0 0, .slice none 0 0, .slice none 0 0] 59 (0, 0))
  have hH := halloc (World.alloc_heap_new ((w.alloc (cfO cf)).alloc (.cells #[.slice none 0 0, .slice none 0 0, .slice none 0 0] 59 (0, 0))) (.cells #[.int .i64 h.id, .int .i64 h.a.x, .int .i64 h.a.z, .int .i64 h.a.y, .int .i64 h.b.x, .int .i64 h.b.z, .int .i64 h.b.y, .bool h.both, .int .i64 h.area, .int .i64 h.cost] 46 (0, 0))) (.cells #[.slice none 0 0, .slice none 0 0, .slice none 0 0] 59 (0, 0))
  have hT := World.alloc_heap_new (((w.alloc (cfO cf)).alloc (.cells #[.slice none 0 0, .slice none 0 0, .slice none 0 0] 59 (0, 0))).alloc (.cells #[.int .i64 h.id, .int .i64 h.a.x, .int .i64 h.a.z, .int .i64 h.a.y, .int .i64 h.b.x, .int .i64 h.b.z, .int .i64 h.b.y, .bool h.both, .int .i64 h.area, .int .i64 h.cost] 46 (0, 0))) (.cells #[.slice none 0 0, .slice none 0 0, .slice none 0 0] 59 (0, 0))
  simp only [World.size_alloc] at hS hT hH
  obtain ⟨W1, hW1⟩ : ∃ W, W = (((w.alloc (cfO cf)).alloc (.cells #[.slice none 0 0, .slice none 0 0, .slice none 0 0] 59 (0, 0))).alloc (.cells #[.int .i64 h.id, .int .i64 h.a.x, .int .i64 h.a.z, .int .i64 h.a.y, .int .i64 h.b.x, .int .i64 h.b.z, .int .i64 h.b.y, .bool h.both, .int .i64 h.area, .int .i64 h.cost] 46 (0, 0))).alloc (.cells #[.slice none 0 0, .slice none 0 0, .slice none 0 0] 59 (0, 0)) := ⟨_, rfl⟩
  obtain ⟨S0, hS0⟩ : ∃ S, S = w.heap.size := ⟨_, rfl⟩
  obtain ⟨S1, hS1⟩ : ∃ S, S = S0 + 1 := ⟨_, rfl⟩
  obtain ⟨S2, hS2⟩ : ∃ S, S = S1 + 1 := ⟨_, rfl⟩
  obtain ⟨S3, hS3⟩ : ∃ S, S = S2 + 1 := ⟨_, rfl⟩
  rw [← hW1] at hB hC hS hT hH
  rw [← hS0] at hC hS hT hH
  rw [← hS1] at hS hT hH
  rw [← hS2] at hT hH
  rw [← hS3] at hT
  have hw1 : w.heap.size ≤ S3 := by omega
  have ED2 := Lib.hid (ED.out S0 S2 W1 hC hH)
  dsimp only [cfO, cfgV] at hC hW1
  clear hH ED
  go_enter Tryz.func14, Tryz.ntmps14
  go_upto_region 1 with fail
  rw [← hW1, ← hS0, ← hS1, ← hS2, ← hS3]
  clear hW1 hS0 hS1 hS2 hS3
  have c0 := hcell (k := 0) (v := .int .i64 cf.clear) hC rfl
  have c1 := hcell (k := 1) (v := .int .i64 cf.climb) hC rfl
  have c2 := hcell (k := 2) (v := .int .i64 cf.height) hC rfl
  have c3 := hcell (k := 3) (v := .int .i64 cf.rise) hC rfl
  have c4 := hcell (k := 4) (v := .int .i64 cf.run) hC rfl
  have c5 := hcell (k := 5) (v := .int .i64 cf.w) hC rfl
  have c6 := hcell (k := 6) (v := .int .i64 cf.d) hC rfl
  have z0 := hcell (k := 0) (v := .slice none 0 0) hS rfl
  have z1 := hcell (k := 1) (v := .slice none 0 0) hS rfl
  have z2 := hcell (k := 2) (v := .slice none 0 0) hS rfl
  go_wp2_with fail
  refine ED2.out.mono ?_
  rintro e w3 ⟨⟨xa, xn, xc, rfl⟩, hb3⟩
  have hT3 := hkeep hb3 hT
  have hB3 := hB.trans (hb3.mono hB.size)
  clear c0 c1 c2 c3 c4 c5 c6 z0 z1 z2 hC hS hT hB hb3 ED2
  have z0 := hcell (k := 0) (v := .slice none 0 0) hT3 rfl
  have z1 := hcell (k := 1) (v := .slice none 0 0) hT3 rfl
  have z2 := hcell (k := 2) (v := .slice none 0 0) hT3 rfl
  have f0 := hfroz (k := 0) hT3
  have f1 := hfroz (k := 1) hT3
  have f2 := hfroz (k := 2) hT3
  have hT9 := box3_set hT3 (.slice none 0 0) (.slice none 0 0) (.slice xa xn xc)
  have hB9 := hB3.grown (box3_grown (w := w3) (b := S3) (.slice none 0 0) (.slice none 0 0) (.slice xa xn xc)) hB3.size (fun j hj => by cases hj; omega)
  clear hT3 hB3
  go_wp2
  refine bodyPost_ret (results_c1t rfl _ _ S3 59 #[.slice none 0 0, .slice none 0 0, .slice xa xn xc] (0, 0) _ rfl hT9 Tryz.underlying59 rfl (by kernel_rfl)) rfl ?_
  exact And.intro ⟨_, _, _, rfl⟩ hB9
end Go.Proofs.YtmgkkmcihplojaaGreat
