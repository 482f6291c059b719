/- Walks: the first of the nearest: locate.least at Nearest's closure. -/
import Derived.Test.YtgfmdgiepomkiaaLcG
namespace Go.Proofs.Ytgfmdgiepomkiaa
open Go.RowKit Go.Sort
attribute [local go_sem] Instr.index

theorem results_tmp3L {fn : Func} {t u v : Tmp} (h : fn.results = #[.tmp t, .tmp u, .tmp v]) (tmps : Array Value) (P : Program) (w : World) :
    (results fn tmps).run P w = .ok (.tuple #[tmps.getD t undef, tmps.getD u undef, tmps.getD v undef]) w := by
  simp [results, h]
abbrev ptO (px pz : Int) : Obj := .cells #[.int .i64 px, .int .i64 pz] 48 (0, 0)
set_option maxRecDepth 100000 in
set_option maxHeartbeats 8000000 in
theorem lnear1_any (h : RHd) (r : Rc) (px pz : Int) (f : Flt) (Q T : Nat) (w : World) (hQ : w.heap[Q]? = some (ptO px pz)) (hT : w.heap[T]? = some (fltO f)) :
    Calls Try.prog 48 #[rcV h r, .pointer (some ⟨Q, 0, none⟩), .pointer (some ⟨T, 0, none⟩)] w fun e w' => e = .returned (.tuple #[.int .i64 (farF r px pz), .bool (admF f r.area)]) ∧ Below w.heap.size w w' := by
  have C1 := Lib.hid (fun W => lfar_any h r px pz W)
  have C2 := Lib.hid (fun W => ladm_any f r.area W)
  generalize farF r px pz = D at C1 ⊢
  generalize admF f r.area = G at C2 ⊢
  have hB : Below w.heap.size w (w.alloc (rcO h r)) := (Below.refl _ _).alloc (Nat.le_refl _) _
  have HR := Lib.hid (World.alloc_heap_new w (rcO h r))
  have HQ := Lib.hid (halloc hQ (rcO h r))
  have HT := Lib.hid (halloc hT (rcO h r))
  clear hQ hT
  dsimp only [rcO, rcV, ptO, fltO, fltA, fltV] at hB HR HQ HT C1 C2 ⊢
  go_enter Try.func48, Try.ntmps48
  go_upto_region 1 with fail
  obtain ⟨W3, hW3⟩ : ∃ W, W = w.alloc (.cells #[.int .i64 r.x0, .int .i64 r.z0, .int .i64 r.x1, .int .i64 r.z1, .int .i64 r.area, .slice h.ya r.ys.length h.yc, .slice h.ta r.ts.length h.tc] 55 (0, 0)) := ⟨_, rfl⟩
  rw [← hW3] at hB HR HQ HT ⊢
  clear hW3
  have hB0 := Lib.hid hB
  clear hB
  refine wp_region_det ([none, none, none, none, some 7, some 8, some 0, some 1, some 2, some 3, some 4, some 5, some 6]) [fun v _ => v = .agg #[.int .i64 r.x0, .int .i64 r.z0, .int .i64 r.x1, .int .i64 r.z1, .int .i64 r.area, .slice h.ya r.ys.length h.yc, .slice h.ta r.ts.length h.tc],
        fun v _ => v = .agg #[.int .i64 px, .int .i64 pz],
        fun v _ => v = .int .i64 D,
        fun v _ => v = .agg #[.int .i64 f.areas, .int .i64 f.c0, .int .i64 f.c1, .int .i64 f.c2, .int .i64 f.c3, .int .i64 f.c4, .int .i64 f.c5, .int .i64 f.c6, .int .i64 f.c7],
        fun v _ => v = .pointer (some ⟨w.heap.size, 4, none⟩),
        fun v _ => v = .int .i64 r.area,
        fun v _ => v = .bool G,
        fun v _ => v = .int .i64 D,
        fun v _ => v = .bool G] (by kernel_rfl) (by kernel_rfl) (by kernel_rfl) (by kernel_rfl) ?_ ?_ ?_
  · refine List.forall_mem_cons.2 ⟨fun _ _ _ h _ => h, List.forall_mem_cons.2 ⟨fun _ _ _ h _ => h, List.forall_mem_cons.2 ⟨fun _ _ _ h _ => h, List.forall_mem_cons.2 ⟨fun _ _ _ h _ => h, List.forall_mem_cons.2 ⟨fun _ _ _ h _ => h, List.forall_mem_cons.2 ⟨fun _ _ _ h _ => h, List.forall_mem_cons.2 ⟨fun _ _ _ h _ => h, List.forall_mem_cons.2 ⟨fun _ _ _ h _ => h, List.forall_mem_cons.2 ⟨fun _ _ _ h _ => h, List.forall_mem_nil _⟩⟩⟩⟩⟩⟩⟩⟩⟩
  · intro Q' K t vals wi hoff hon hB i hlt
    have hlt : i < 9 := hlt
    cases i, hlt using cas9
    · intro hS hK
      have g3 : t[(3 : Nat)]? = some (.pointer (some ⟨w.heap.size, 0, none⟩)) := hoff 3 _ rfl rfl
      have hR := hkeep hB HR.out
      have c0 := hcell (k := 0) (v := .int .i64 r.x0) hR rfl
      have c1 := hcell (k := 1) (v := .int .i64 r.z0) hR rfl
      have c2 := hcell (k := 2) (v := .int .i64 r.x1) hR rfl
      have c3 := hcell (k := 3) (v := .int .i64 r.z1) hR rfl
      have c4 := hcell (k := 4) (v := .int .i64 r.area) hR rfl
      have c5 := hcell (k := 5) (v := .slice h.ya r.ys.length h.yc) hR rfl
      have c6 := hcell (k := 6) (v := .slice h.ta r.ts.length h.tc) hR rfl
      clear hoff hon hS
      refine wpOp_of rfl rfl ?_
      go_simp
      exact hK.out _ _ rfl (Below.refl _ _)
    · intro hS hK
      have g1 : t[(1 : Nat)]? = some (.pointer (some ⟨Q, 0, none⟩)) := hoff 1 _ rfl rfl
      have hR := hkeep hB HQ.out
      have c0 := hcell (k := 0) (v := .int .i64 px) hR rfl
      have c1 := hcell (k := 1) (v := .int .i64 pz) hR rfl
      clear hoff hon hS
      refine wpOp_of rfl rfl ?_
      go_simp
      exact hK.out _ _ rfl (Below.refl _ _)
    · intro hS hK
      have g6 : t[(6 : Nat)]? = some (.agg #[.int .i64 r.x0, .int .i64 r.z0, .int .i64 r.x1, .int .i64 r.z1, .int .i64 r.area, .slice h.ya r.ys.length h.yc, .slice h.ta r.ts.length h.tc]) := (hon 0 6 rfl).trans (congrArg some (hS 0 (by kernel_rfl)))
      have g7 : t[(7 : Nat)]? = some (.agg #[.int .i64 px, .int .i64 pz]) := (hon 1 7 rfl).trans (congrArg some (hS 1 (by kernel_rfl)))
      clear hoff hon hS
      refine wpOp_of rfl rfl ?_
      go_simp
      go_at_call 18
      refine (C1.out _).mono ?_
      rintro e wz ⟨rfl, hbz⟩
      (try go_simp)
      exact hK.out _ _ rfl hbz
    · intro hS hK
      have g2 : t[(2 : Nat)]? = some (.pointer (some ⟨T, 0, none⟩)) := hoff 2 _ rfl rfl
      have hR := hkeep hB HT.out
      have c0 := hcell (k := 0) (v := .int .i64 f.areas) hR rfl
      have c1 := hcell (k := 1) (v := .int .i64 f.c0) hR rfl
      have c2 := hcell (k := 2) (v := .int .i64 f.c1) hR rfl
      have c3 := hcell (k := 3) (v := .int .i64 f.c2) hR rfl
      have c4 := hcell (k := 4) (v := .int .i64 f.c3) hR rfl
      have c5 := hcell (k := 5) (v := .int .i64 f.c4) hR rfl
      have c6 := hcell (k := 6) (v := .int .i64 f.c5) hR rfl
      have c7 := hcell (k := 7) (v := .int .i64 f.c6) hR rfl
      have c8 := hcell (k := 8) (v := .int .i64 f.c7) hR rfl
      clear hoff hon hS
      refine wpOp_of rfl rfl ?_
      go_simp
      exact hK.out _ _ rfl (Below.refl _ _)
    · intro hS hK
      have g3 : t[(3 : Nat)]? = some (.pointer (some ⟨w.heap.size, 0, none⟩)) := hoff 3 _ rfl rfl
      clear hoff hon hS
      refine wpOp_of rfl rfl ?_
      go_simp
      exact hK.out _ _ rfl (Below.refl _ _)
    · intro hS hK
      have g10 : t[(10 : Nat)]? = some (.pointer (some ⟨w.heap.size, 4, none⟩)) := (hon 4 10 rfl).trans (congrArg some (hS 4 (by kernel_rfl)))
      have c0 := hcell (k := 4) (v := .int .i64 r.area) (hkeep hB HR.out) rfl
      clear hoff hon hS
      refine wpOp_of rfl rfl ?_
      go_simp
      exact hK.out _ _ rfl (Below.refl _ _)
    · intro hS hK
      have g9 : t[(9 : Nat)]? = some (.agg #[.int .i64 f.areas, .int .i64 f.c0, .int .i64 f.c1, .int .i64 f.c2, .int .i64 f.c3, .int .i64 f.c4, .int .i64 f.c5, .int .i64 f.c6, .int .i64 f.c7]) := (hon 3 9 rfl).trans (congrArg some (hS 3 (by kernel_rfl)))
      have g11 : t[(11 : Nat)]? = some (.int .i64 r.area) := (hon 5 11 rfl).trans (congrArg some (hS 5 (by kernel_rfl)))
      clear hoff hon hS
      refine wpOp_of rfl rfl ?_
      go_simp
      go_at_call 17
      refine (C2.out _).mono ?_
      rintro e wz ⟨rfl, hbz⟩
      (try go_simp)
      exact hK.out _ _ rfl hbz
    · intro hS hK
      have g8 : t[(8 : Nat)]? = some (.int .i64 D) := (hon 2 8 rfl).trans (congrArg some (hS 2 (by kernel_rfl)))
      clear hoff hon hS
      refine wpOp_of rfl rfl ?_
      go_simp
      exact hK.out _ _ rfl (Below.refl _ _)
    · intro hS hK
      have g12 : t[(12 : Nat)]? = some (.bool G) := (hon 6 12 rfl).trans (congrArg some (hS 6 (by kernel_rfl)))
      clear hoff hon hS
      refine wpOp_of rfl rfl ?_
      go_simp
      exact hK.out _ _ rfl (Below.refl _ _)
  · intro vals wi hB hS
    have e0 : vals 0 = .agg #[.int .i64 r.x0, .int .i64 r.z0, .int .i64 r.x1, .int .i64 r.z1, .int .i64 r.area, .slice h.ya r.ys.length h.yc, .slice h.ta r.ts.length h.tc] := hS 0 (by decide)
    have e1 : vals 1 = .agg #[.int .i64 px, .int .i64 pz] := hS 1 (by decide)
    have e2 : vals 2 = .int .i64 D := hS 2 (by decide)
    have e3 : vals 3 = .agg #[.int .i64 f.areas, .int .i64 f.c0, .int .i64 f.c1, .int .i64 f.c2, .int .i64 f.c3, .int .i64 f.c4, .int .i64 f.c5, .int .i64 f.c6, .int .i64 f.c7] := hS 3 (by decide)
    have e4 : vals 4 = .pointer (some ⟨w.heap.size, 4, none⟩) := hS 4 (by decide)
    have e5 : vals 5 = .int .i64 r.area := hS 5 (by decide)
    have e6 : vals 6 = .bool G := hS 6 (by decide)
    have e7 : vals 7 = .int .i64 D := hS 7 (by decide)
    have e8 : vals 8 = .bool G := hS 8 (by decide)
    clear hS
    dsimp only [over]
    rw [e7, e8]
    clear e0 e1 e2 e3 e4 e5 e6 e7 e8
    go_wp2
    go_ret2
    exact ⟨rfl, hB0.out.trans (hB.mono hB0.out.size)⟩
def LeastPost (F : RHd × Rc → Int) (G : RHd × Rc → Bool) (xs : List (RHd × Rc)) (n : Nat) (w : World) (e : Ending) (w' : World) : Prop := (∃ (p m : Int) (ok : Bool), e = .returned (.tuple #[.int .i64 p, .int .i64 m, .bool ok]) ∧ LeastAt F G xs n p m ok) ∧ Below w.heap.size w w'
abbrev nearV (Q T : Nat) : Value := .func (.func 48) #[] #[.pointer (some ⟨Q, 0, none⟩), .pointer (some ⟨T, 0, none⟩)]
set_option maxRecDepth 100000 in
set_option maxHeartbeats 8000000 in
theorem least_any (a : Option Addr) (n c : Nat) (xs : List (RHd × Rc)) (px pz : Int) (f : Flt) (Q T : Nat) (w : World) (hx : SlRc w a n c xs) (hQ : w.heap[Q]? = some (ptO px pz)) (hT : w.heap[T]? = some (fltO f)) :
    Calls Try.prog 47 #[.slice a n c, nearV Q T] w (LeastPost (fun x : RHd × Rc => farF x.2 px pz) (fun x => admF f x.2.area) xs n w) := by
  have Hl := Lib.hid hx.sl.len
  have hmax := hx.sl.max
  have hle := hx.sl.le
  have HX := Lib.hid (fun W (hb : Below w.heap.size w W) => hx.below hb (Nat.le_refl _))
  have N1 := Lib.hid (fun h r W (hb : Below w.heap.size w W) => lnear1_any h r px pz f Q T W (hkeep hb hQ) (hkeep hb hT))
  clear hx hQ hT
  obtain ⟨F, hF⟩ : ∃ F, F = (fun x : RHd × Rc => farF x.2 px pz) := ⟨_, rfl⟩
  obtain ⟨G, hG⟩ : ∃ G, G = (fun x : RHd × Rc => admF f x.2.area) := ⟨_, rfl⟩
  rw [← hF, ← hG]
  have HF : Hid (∀ h r, farF r px pz = F (h, r)) := fun h r => by rw [hF]
  have HG : Hid (∀ h r, admF f r.area = G (h, r)) := fun h r => by rw [hG]
  clear hF hG
  go_enter Try.func47, Try.ntmps47
  go_wp2
  go_loopw [4, 5, 6, 13] (fun s4 s5 s6 s13 wr => ∃ (k : Nat) (p m : Int) (ok : Bool), s4 = .int .i64 p ∧ s5 = .int .i64 m ∧ s6 = .bool ok ∧ s13 = .int .i64 k ∧ k ≤ n ∧ Hid (LeastAt F G xs k p m ok) ∧ Below w.heap.size w wr) (fun _ _ _ s13 _ => n - (intOf s13).toNat)
  case atStart => exact ⟨0, 0, 0, false, rfl, rfl, rfl, rfl, Nat.zero_le _, LeastAt.zero F G xs, Below.refl _ _⟩
  case round =>
    obtain ⟨k, p, m, ok, rfl, rfl, rfl, rfl, hk, HL, hb⟩ := hrel
    by_cases hkn : k < n
    case neg =>
      obtain rfl : k = n := by omega
      have hI : ¬ (k : Int) < (k : Int) := by omega
      go_wp2
      refine bodyPost_ret (results_tmp3L rfl _ _ _) rfl ?_
      exact And.intro ⟨p, m, ok, rfl, HL.out⟩ hb
    have hI : (k : Int) < (n : Int) := by omega
    have wi1 : IntKind.i64.wrap ((k : Int) + 1) = ((k + 1 : Nat) : Int) := by rw [IntKind.wrap_i64]; omega
    obtain ⟨⟨h, r⟩, hxk⟩ : ∃ x, xs[k]? = some x := ⟨_, List.getElem?_eq_getElem (by rw [Hl.out]; exact hkn)⟩
    have hw := HX.out _ hb
    obtain ⟨B, off, rfl, _, _⟩ := hw.sl.at0 (by omega)
    have r0 := hw.at hxk 0 _ rfl
    have r1 := hw.at hxk 1 _ rfl
    have r2 := hw.at hxk 2 _ rfl
    have r3 := hw.at hxk 3 _ rfl
    have r4 := hw.at hxk 4 _ rfl
    have r5 := hw.at hxk 5 _ rfl
    have r6 := hw.at hxk 6 _ rfl
    simp only [Nat.add_zero] at r0
    have HXK := Lib.hid hxk
    clear hw hxk
    have hA : Below w.heap.size w (wr.alloc (rcO h r)) := hb.alloc hb.size _
    have hN := World.alloc_heap_new wr (rcO h r)
    dsimp only [rcO] at hA hN
    have c0 := hcell (k := 0) (v := .int .i64 r.x0) hN rfl
    have c1 := hcell (k := 1) (v := .int .i64 r.z0) hN rfl
    have c2 := hcell (k := 2) (v := .int .i64 r.x1) hN rfl
    have c3 := hcell (k := 3) (v := .int .i64 r.z1) hN rfl
    have c4 := hcell (k := 4) (v := .int .i64 r.area) hN rfl
    have c5 := hcell (k := 5) (v := .slice h.ya r.ys.length h.yc) hN rfl
    have c6 := hcell (k := 6) (v := .slice h.ta r.ts.length h.tc) hN rfl
    clear hN
    go_wp2_with fail
    refine (N1.out h r _ hA).mono ?_
    rintro e w1 ⟨rfl, hb1⟩
    have hB1 := hA.trans (hb1.mono hA.size)
    clear c0 c1 c2 c3 c4 c5 c6 r0 r1 r2 r3 r4 r5 r6 hA hb1 hb
    rw [HF.out h r, HG.out h r]
    obtain ⟨D, hD⟩ : ∃ D, D = F (h, r) := ⟨_, rfl⟩
    obtain ⟨A, hA⟩ : ∃ A, A = G (h, r) := ⟨_, rfl⟩
    have HD := Lib.hid hD
    have HA := Lib.hid hA
    rw [← hD, ← hA]
    clear hD hA
    cases A with
    | false =>
      have HL2 : Hid (LeastAt F G xs (k + 1) p m ok) := HL.out.skip HXK.out HA.out.symm
      go_wp2
      go_roundw
      case rel => exact ⟨k + 1, p, m, ok, rfl, rfl, rfl, by go_num, by omega, HL2, hB1⟩
      case measure => simp [intOf]; omega
    | true =>
    cases ok with
    | false =>
      have HL2 : Hid (LeastAt F G xs (k + 1) (k : Int) D true) := by have := HL.out.take HXK.out HA.out.symm (.inl rfl); rw [← HD.out] at this; exact this
      go_wp2
      go_roundw
      case rel => exact ⟨k + 1, k, D, true, rfl, rfl, rfl, by go_num, by omega, HL2, hB1⟩
      case measure => simp [intOf]; omega
    | true =>
    by_cases hDm : D < m
    case pos =>
      have HL2 : Hid (LeastAt F G xs (k + 1) (k : Int) D true) := by have := HL.out.take HXK.out HA.out.symm (.inr (by rw [← HD.out]; exact hDm)); rw [← HD.out] at this; exact this
      go_wp2
      go_roundw
      case rel => exact ⟨k + 1, k, D, true, rfl, rfl, rfl, by go_num, by omega, HL2, hB1⟩
      case measure => simp [intOf]; omega
    case neg =>
      have HL2 : Hid (LeastAt F G xs (k + 1) p m true) := HL.out.keep HXK.out (by rw [← HD.out]; exact hDm)
      go_wp2
      go_roundw
      case rel => exact ⟨k + 1, p, m, true, rfl, rfl, rfl, by go_num, by omega, HL2, hB1⟩
      case measure => simp [intOf]; omega
end Go.Proofs.Ytgfmdgiepomkiaa
