/- Walks: package tri: corners, normals. -/
import Derived.Test.YtjiklfffcnfdjaaGreatHm
import Derived.Test.YtjiklfffcnfdjaaGreatGe
import Derived.Test.YtjiklfffcnfdjaaGreatGo
import Derived.Test.YtjiklfffcnfdjaaGreatClpP
namespace Go.Proofs.YtjiklfffcnfdjaaGreat
open Go.RowKit
attribute [local go_sem] Instr.index

abbrev trA (t : Tr) : Value := .agg #[.int .i64 t.id, .int .i64 t.a.x, .int .i64 t.a.y, .int .i64 t.a.z, .int .i64 t.b.x, .int .i64 t.b.y, .int .i64 t.b.z, .int .i64 t.c.x, .int .i64 t.c.y, .int .i64 t.c.z]
theorem crn_min {W D : Int} {t : Tr} : crnOk W D t = (decide (0 ≤ min t.a.x (min t.b.x t.c.x)) && decide (max t.a.x (max t.b.x t.c.x) ≤ W) && decide (0 ≤ min t.a.z (min t.b.z t.c.z)) && decide (max t.a.z (max t.b.z t.c.z) ≤ D) && decide (-2048 ≤ min t.a.y (min t.b.y t.c.y)) && decide (max t.a.y (max t.b.y t.c.y) ≤ 2048)) := by
  rw [Bool.eq_iff_iff, crn_iff]
  simp only [Bool.and_eq_true, decide_eq_true_eq]
  omega
set_option maxRecDepth 100000 in
set_option maxHeartbeats 2000000 in
theorem trcorners_any (W D : Int) (t : Tr) (w : World) :
    Calls Tryz.prog 44 #[trA t, .int .i64 W, .int .i64 D] w fun e w' => e = .returned (.bool (crnOk W D t)) ∧ Below w.heap.size w w' := by
  have BD := Lib.hid (fun W => bounds_any t.id t.a t.b t.c W)
  have H := Lib.hid (crn_min (W := W) (D := D) (t := t))
  have hB : Below w.heap.size w (w.alloc (trO t.id t.a t.b t.c)) := (Below.refl _ _).alloc (Nat.le_refl _) _
  generalize min t.a.x (min t.b.x t.c.x) = lx at BD H
  generalize min t.a.y (min t.b.y t.c.y) = ly at BD H
  generalize min t.a.z (min t.b.z t.c.z) = lz at BD H
  generalize max t.a.x (max t.b.x t.c.x) = ux at BD H
  generalize max t.a.y (max t.b.y t.c.y) = uy at BD H
  generalize max t.a.z (max t.b.z t.c.z) = uz at BD H
  generalize crnOk W D t = r at H ⊢
  obtain ⟨i, ⟨ax, ay, az⟩, ⟨bx, by_, bz⟩, ⟨cx, cy, cz⟩⟩ := t
  dsimp only [trO, trA] at BD hB ⊢
  go_enter Tryz.func44, Tryz.ntmps44
  go_wp2_with fail
  refine (BD.out _).mono ?_
  rintro e w1 ⟨rfl, hb1⟩
  have hB1 := hB.trans (hb1.mono hB.size)
  have hB2 := (hB1.alloc hB1.size (.cells #[.int .i64 lx, .int .i64 ly, .int .i64 lz] 74)).alloc (by have := hB1.size; simp; omega) (.cells #[.int .i64 ux, .int .i64 uy, .int .i64 uz] 74)
  clear hb1 hB BD hB1
  go_wp2
  all_goals
    go_ret
    refine ⟨ret_bool ?_, hB2⟩
    rw [H.out]
    clear hB2 H
    grind
/-- What Normal tells. -/
def nrmE (t : Tr) : Int × Int × Int × Int := if crnOk 32 32 t && decide (nyV t ≠ 0) then (nxV t, nyV t, nzV t, 0) else (0, 0, 0, 40)
end Go.Proofs.YtjiklfffcnfdjaaGreat

namespace Go.Proofs.YtjiklfffcnfdjaaGreat
open Go.RowKit
attribute [local go_sem] Instr.index

theorem less_s (ux uy uz vx vy vz : Int) (w : World) (h1 : -100000 ≤ ux ∧ ux ≤ 100000) (h2 : -100000 ≤ uy ∧ uy ≤ 100000) (h3 : -100000 ≤ uz ∧ uz ≤ 100000) (h4 : -100000 ≤ vx ∧ vx ≤ 100000) (h5 : -100000 ≤ vy ∧ vy ≤ 100000) (h6 : -100000 ≤ vz ∧ vz ≤ 100000) :
    Calls Tryz.prog 62 #[.agg #[.int .i64 ux, .int .i64 uy, .int .i64 uz], .agg #[.int .i64 vx, .int .i64 vy, .int .i64 vz]] w fun e w' => e = .returned (.agg #[.int .i64 (ux - vx), .int .i64 (uy - vy), .int .i64 (uz - vz)]) ∧ Below w.heap.size w w' :=
  trless_any ⟨ux, uy, uz⟩ ⟨vx, vy, vz⟩ w ⟨h1, h2, h3⟩ ⟨h4, h5, h6⟩
theorem results_n4 {fn : Func} {t u v x : Tmp} (h : fn.results = #[.tmp t, .tmp u, .tmp v, .tmp x]) (tmps : Array Value) (P : Program) (w : World) :
    (results fn tmps).run P w = .ok (.tuple #[tmps.getD t undef, tmps.getD u undef, tmps.getD v undef, tmps.getD x undef]) w := by
  simp [results, h]
def NInv (i ax ay az bx by_ bz cx cy cz : Int) (T : Nat) (w1 : World) (L : Array Bool) (a : Act) (w : World) : Prop :=
  ∃ (s6 s7 s11 s12 s13 s14 s15 s16 s17 s18 s19 s20 s21 s22 s23 s24 : Value) (p q : Nat), a = { tmps := #[.agg #[.int .i64 i, .int .i64 ax, .int .i64 ay, .int .i64 az, .int .i64 bx, .int .i64 by_, .int .i64 bz, .int .i64 cx, .int .i64 cy, .int .i64 cz], .pointer (some ⟨T, 0, none⟩), .int .i64 0, .int .i64 0, .int .i64 0, .int .i64 0, s6, s7, .agg #[.int .i64 i, .int .i64 ax, .int .i64 ay, .int .i64 az, .int .i64 bx, .int .i64 by_, .int .i64 bz, .int .i64 cx, .int .i64 cy, .int .i64 cz], .bool true, .bool false, s11, s12, s13, s14, s15, s16, s17, s18, s19, s20, s21, s22, s23, s24, undef, undef, undef, undef, undef, undef, undef, undef, undef, undef, undef, undef, undef, undef, undef, undef, undef, undef, undef, undef, undef, undef, undef, undef, undef, undef, undef, undef, undef, undef, undef, undef, undef, undef, undef, undef], defers := [] } ∧ Below w1.heap.size w1 w ∧
    (L.getD 0 false = true → s11 = .pointer (some ⟨T, 1, none⟩)) ∧
    (L.getD 1 false = true → s12 = .pointer (some ⟨T, 4, none⟩)) ∧
    (L.getD 2 false = true → s13 = .agg #[.int .i64 bx, .int .i64 by_, .int .i64 bz]) ∧
    (L.getD 3 false = true → s14 = .pointer (some ⟨T, 1, none⟩)) ∧
    (L.getD 4 false = true → s15 = .pointer (some ⟨T, 1, none⟩)) ∧
    (L.getD 5 false = true → s16 = .agg #[.int .i64 ax, .int .i64 ay, .int .i64 az]) ∧
    (L.getD 6 false = true → s17 = .agg #[.int .i64 (bx - ax), .int .i64 (by_ - ay), .int .i64 (bz - az)]) ∧
    (L.getD 7 false = true → s18 = .pointer (some ⟨T, 1, none⟩)) ∧
    (L.getD 8 false = true → s19 = .pointer (some ⟨T, 7, none⟩)) ∧
    (L.getD 9 false = true → s20 = .agg #[.int .i64 cx, .int .i64 cy, .int .i64 cz]) ∧
    (L.getD 10 false = true → s21 = .pointer (some ⟨T, 1, none⟩)) ∧
    (L.getD 11 false = true → s22 = .pointer (some ⟨T, 1, none⟩)) ∧
    (L.getD 12 false = true → s23 = .agg #[.int .i64 ax, .int .i64 ay, .int .i64 az]) ∧
    (L.getD 13 false = true → s24 = .agg #[.int .i64 (cx - ax), .int .i64 (cy - ay), .int .i64 (cz - az)]) ∧
    (L.getD 14 false = true → s6 = .pointer (some ⟨p, 0, none⟩) ∧ w1.heap.size ≤ p ∧ w.heap[p]? = some (.cells (if L.getD 16 false = true then #[.int .i64 (bx - ax), .int .i64 (by_ - ay), .int .i64 (bz - az)] else #[.int .i64 0, .int .i64 0, .int .i64 0]) 74 (0, 0))) ∧
    (L.getD 15 false = true → s7 = .pointer (some ⟨q, 0, none⟩) ∧ w1.heap.size ≤ q ∧ w.heap[q]? = some (.cells (if L.getD 17 false = true then #[.int .i64 (cx - ax), .int .i64 (cy - ay), .int .i64 (cz - az)] else #[.int .i64 0, .int .i64 0, .int .i64 0]) 74 (0, 0))) ∧
    (L.getD 14 false = true → L.getD 15 false = true → p ≠ q) ∧ (L.getD 16 false = true → L.getD 14 false = true) ∧ (L.getD 17 false = true → L.getD 15 false = true)
abbrev vxT (v : V3) : Obj := .cells #[.int .i64 v.x, .int .i64 v.y, .int .i64 v.z] 74 (0, 0)
set_option maxRecDepth 100000 in
set_option maxHeartbeats 20000000 in
theorem normal_any (t : Tr) (w : World) :
    Calls Tryz.prog 43 #[trA t] w fun e w' => e = .returned (.tuple #[.int .i64 (nrmE t).1, .int .i64 (nrmE t).2.1, .int .i64 (nrmE t).2.2.1, .int .i64 (nrmE t).2.2.2]) ∧ Below w.heap.size w w' := by
  have CO := Lib.hid (fun W => trcorners_any 32 32 t W)
  have hT := World.alloc_heap_new w (trO t.id t.a t.b t.c)
  have hB : Below w.heap.size w (w.alloc (trO t.id t.a t.b t.c)) := (Below.refl _ _).alloc (Nat.le_refl _) _
  cases hc : crnOk 32 32 t with
  | false =>
    rw [hc] at CO
    have HN : Hid (nrmE t = (0, 0, 0, 40)) := by show _ = _; unfold nrmE; rw [hc]; rfl
    generalize nrmE t = r at HN ⊢
    have e := HN.out
    subst e
    obtain ⟨i, ⟨ax, ay, az⟩, ⟨bx, by_, bz⟩, ⟨cx, cy, cz⟩⟩ := t
    dsimp only [trO, trA] at CO hB hT ⊢
    go_enter Tryz.func43, Tryz.ntmps43
    go_wp2_with fail
    refine (CO.out _).mono ?_
    rintro e w1 ⟨rfl, hb1⟩
    have hB1 := hB.trans (hb1.mono hB.size)
    clear hb1 hB CO hT
    go_wp2
    ((try simp only [Exit.inBlock, Exit.then]); refine bodyPost_ret (results_n4 rfl _ _ _) rfl ?_)
    exact ⟨rfl, hB1⟩
  | true =>
    rw [hc] at CO
    have hci := crn_iff.1 hc
    obtain ⟨i, ⟨ax, ay, az⟩, ⟨bx, by_, bz⟩, ⟨cx, cy, cz⟩⟩ := t
    dsimp only [trO, trA] at CO hB hT hci ⊢
    obtain ⟨r, hr⟩ : ∃ r, r = nrmE ⟨i, ⟨ax, ay, az⟩, ⟨bx, by_, bz⟩, ⟨cx, cy, cz⟩⟩ := ⟨_, rfl⟩
    rw [← hr]
    have HR := Lib.hid hr
    clear hr
    have k1 : -100000 ≤ ax ∧ ax ≤ 100000 := by omega
    have k2 : -100000 ≤ ay ∧ ay ≤ 100000 := by omega
    have k3 : -100000 ≤ az ∧ az ≤ 100000 := by omega
    have k4 : -100000 ≤ bx ∧ bx ≤ 100000 := by omega
    have k5 : -100000 ≤ by_ ∧ by_ ≤ 100000 := by omega
    have k6 : -100000 ≤ bz ∧ bz ≤ 100000 := by omega
    have k7 : -100000 ≤ cx ∧ cx ≤ 100000 := by omega
    have k8 : -100000 ≤ cy ∧ cy ≤ 100000 := by omega
    have k9 : -100000 ≤ cz ∧ cz ≤ 100000 := by omega
    go_enter Tryz.func43, Tryz.ntmps43
    go_wp2_with fail
    refine (CO.out _).mono ?_
    rintro e w1 ⟨rfl, hb1⟩
    have hB1 := hB.trans (hb1.mono hB.size)
    have hT1 := hkeep hb1 hT
    obtain ⟨T, hTT⟩ : ∃ T, T = w.heap.size := ⟨_, rfl⟩
    rw [← hTT] at hT1 ⊢
    have HT := Lib.hid hTT
    have hlt : T < w1.heap.size := hblt hT1
    clear hb1 hB CO hT hTT
    go_upto_region 3 with fail
    go_cut [6, 7] from 11 to 24 (fun s6 s7 wx => ∃ p q : Nat, s6 = .pointer (some ⟨p, 0, none⟩) ∧ s7 = .pointer (some ⟨q, 0, none⟩) ∧ wx.heap[p]? = some (vxT ⟨bx - ax, by_ - ay, bz - az⟩) ∧ wx.heap[q]? = some (vxT ⟨cx - ax, cy - ay, cz - az⟩) ∧ Below w1.heap.size w1 wx)
    case first =>
      clear hB1 hc hci
      refine wp_region_inv (NInv i ax ay az bx by_ bz cx cy cz T w1) (by kernel_rfl) (by kernel_rfl) ?_ ?_ ?_
      · unfold NInv
        refine ⟨undef, undef, undef, undef, undef, undef, undef, undef, undef, undef, undef, undef, undef, undef, undef, undef, 0, 0, rfl, (Below.refl _ _).drew, ?_, ?_, ?_, ?_, ?_, ?_, ?_, ?_, ?_, ?_, ?_, ?_, ?_, ?_, ?_, ?_, ?_, ?_, ?_⟩ <;> (intro h; cases (show false = true from h))
      · intro L a w i hs hI hi
        have hs18 : L.size = 18 := hs
        have hn := ready_elim hi
        have hlt : i < 18 := by
          obtain ⟨o, ho, _⟩ := hn.2
          exact (Array.getElem?_eq_some_iff.1 ho).1
        have hi' := ready_not hi false (by rw [hs]; exact hlt)
        clear hn
        unfold NInv at hI
        obtain ⟨s6, s7, s11, s12, s13, s14, s15, s16, s17, s18, s19, s20, s21, s22, s23, s24, p, q, rfl, hB, h0, h1, h2, h3, h4, h5, h6, h7, h8, h9, h10, h11, h12, h13, h14, h15, hpq, h16, h17⟩ := hI
        have hT' := hkeep hB hT1
        rcases (by omega : i = 0 ∨ i = 1 ∨ i = 2 ∨ i = 3 ∨ i = 4 ∨ i = 5 ∨ i = 6 ∨ i = 7 ∨ i = 8 ∨ i = 9 ∨ i = 10 ∨ i = 11 ∨ i = 12 ∨ i = 13 ∨ i = 14 ∨ i = 15 ∨ i = 16 ∨ i = 17) with rfl | rfl | rfl | rfl | rfl | rfl | rfl | rfl | rfl | rfl | rfl | rfl | rfl | rfl | rfl | rfl | rfl | rfl
        · skip
          refine wpOp_of rfl rfl ?_
          go_simp
          unfold NInv
          refine ⟨_, _, _, _, _, _, _, _, _, _, _, _, _, _, _, _, p, q, rfl, hB, fun _ => rfl, fun h => h1 (by rwa [getD_set_ne (by decide)] at h), fun h => h2 (by rwa [getD_set_ne (by decide)] at h), fun h => h3 (by rwa [getD_set_ne (by decide)] at h), fun h => h4 (by rwa [getD_set_ne (by decide)] at h), fun h => h5 (by rwa [getD_set_ne (by decide)] at h), fun h => h6 (by rwa [getD_set_ne (by decide)] at h), fun h => h7 (by rwa [getD_set_ne (by decide)] at h), fun h => h8 (by rwa [getD_set_ne (by decide)] at h), fun h => h9 (by rwa [getD_set_ne (by decide)] at h), fun h => h10 (by rwa [getD_set_ne (by decide)] at h), fun h => h11 (by rwa [getD_set_ne (by decide)] at h), fun h => h12 (by rwa [getD_set_ne (by decide)] at h), fun h => h13 (by rwa [getD_set_ne (by decide)] at h), fun h => by rw [getD_set_ne (by decide)] at h; rw [getD_set_ne (by decide)]; obtain ⟨e1, e2, e3⟩ := h14 h; exact ⟨e1, e2, e3⟩, fun h => by rw [getD_set_ne (by decide)] at h; rw [getD_set_ne (by decide)]; obtain ⟨e1, e2, e3⟩ := h15 h; exact ⟨e1, e2, e3⟩, fun h h2 => hpq (by rwa [getD_set_ne (by decide)] at h) (by rwa [getD_set_ne (by decide)] at h2), fun h => by rw [getD_set_ne (by decide)] at h ⊢; exact h16 h, fun h => by rw [getD_set_ne (by decide)] at h ⊢; exact h17 h⟩
        · skip
          have e0 := h0 (ready_dep hi (by kernel_rfl))
          subst e0
          refine wpOp_of rfl rfl ?_
          go_simp
          unfold NInv
          refine ⟨_, _, _, _, _, _, _, _, _, _, _, _, _, _, _, _, p, q, rfl, hB, fun h => h0 (by rwa [getD_set_ne (by decide)] at h), fun _ => rfl, fun h => h2 (by rwa [getD_set_ne (by decide)] at h), fun h => h3 (by rwa [getD_set_ne (by decide)] at h), fun h => h4 (by rwa [getD_set_ne (by decide)] at h), fun h => h5 (by rwa [getD_set_ne (by decide)] at h), fun h => h6 (by rwa [getD_set_ne (by decide)] at h), fun h => h7 (by rwa [getD_set_ne (by decide)] at h), fun h => h8 (by rwa [getD_set_ne (by decide)] at h), fun h => h9 (by rwa [getD_set_ne (by decide)] at h), fun h => h10 (by rwa [getD_set_ne (by decide)] at h), fun h => h11 (by rwa [getD_set_ne (by decide)] at h), fun h => h12 (by rwa [getD_set_ne (by decide)] at h), fun h => h13 (by rwa [getD_set_ne (by decide)] at h), fun h => by rw [getD_set_ne (by decide)] at h; rw [getD_set_ne (by decide)]; obtain ⟨e1, e2, e3⟩ := h14 h; exact ⟨e1, e2, e3⟩, fun h => by rw [getD_set_ne (by decide)] at h; rw [getD_set_ne (by decide)]; obtain ⟨e1, e2, e3⟩ := h15 h; exact ⟨e1, e2, e3⟩, fun h h2 => hpq (by rwa [getD_set_ne (by decide)] at h) (by rwa [getD_set_ne (by decide)] at h2), fun h => by rw [getD_set_ne (by decide)] at h ⊢; exact h16 h, fun h => by rw [getD_set_ne (by decide)] at h ⊢; exact h17 h⟩
        · skip
          have e1 := h1 (ready_dep hi (by kernel_rfl))
          subst e1
          have c0 := hcell (k := 4) (v := .int .i64 bx) hT' rfl
          have c1 := hcell (k := 5) (v := .int .i64 by_) hT' rfl
          have c2 := hcell (k := 6) (v := .int .i64 bz) hT' rfl
          refine wpOp_of rfl rfl ?_
          go_simp
          unfold NInv
          refine ⟨_, _, _, _, _, _, _, _, _, _, _, _, _, _, _, _, p, q, rfl, hB, fun h => h0 (by rwa [getD_set_ne (by decide)] at h), fun h => h1 (by rwa [getD_set_ne (by decide)] at h), fun _ => rfl, fun h => h3 (by rwa [getD_set_ne (by decide)] at h), fun h => h4 (by rwa [getD_set_ne (by decide)] at h), fun h => h5 (by rwa [getD_set_ne (by decide)] at h), fun h => h6 (by rwa [getD_set_ne (by decide)] at h), fun h => h7 (by rwa [getD_set_ne (by decide)] at h), fun h => h8 (by rwa [getD_set_ne (by decide)] at h), fun h => h9 (by rwa [getD_set_ne (by decide)] at h), fun h => h10 (by rwa [getD_set_ne (by decide)] at h), fun h => h11 (by rwa [getD_set_ne (by decide)] at h), fun h => h12 (by rwa [getD_set_ne (by decide)] at h), fun h => h13 (by rwa [getD_set_ne (by decide)] at h), fun h => by rw [getD_set_ne (by decide)] at h; rw [getD_set_ne (by decide)]; obtain ⟨e1, e2, e3⟩ := h14 h; exact ⟨e1, e2, e3⟩, fun h => by rw [getD_set_ne (by decide)] at h; rw [getD_set_ne (by decide)]; obtain ⟨e1, e2, e3⟩ := h15 h; exact ⟨e1, e2, e3⟩, fun h h2 => hpq (by rwa [getD_set_ne (by decide)] at h) (by rwa [getD_set_ne (by decide)] at h2), fun h => by rw [getD_set_ne (by decide)] at h ⊢; exact h16 h, fun h => by rw [getD_set_ne (by decide)] at h ⊢; exact h17 h⟩
        · skip
          refine wpOp_of rfl rfl ?_
          go_simp
          unfold NInv
          refine ⟨_, _, _, _, _, _, _, _, _, _, _, _, _, _, _, _, p, q, rfl, hB, fun h => h0 (by rwa [getD_set_ne (by decide)] at h), fun h => h1 (by rwa [getD_set_ne (by decide)] at h), fun h => h2 (by rwa [getD_set_ne (by decide)] at h), fun _ => rfl, fun h => h4 (by rwa [getD_set_ne (by decide)] at h), fun h => h5 (by rwa [getD_set_ne (by decide)] at h), fun h => h6 (by rwa [getD_set_ne (by decide)] at h), fun h => h7 (by rwa [getD_set_ne (by decide)] at h), fun h => h8 (by rwa [getD_set_ne (by decide)] at h), fun h => h9 (by rwa [getD_set_ne (by decide)] at h), fun h => h10 (by rwa [getD_set_ne (by decide)] at h), fun h => h11 (by rwa [getD_set_ne (by decide)] at h), fun h => h12 (by rwa [getD_set_ne (by decide)] at h), fun h => h13 (by rwa [getD_set_ne (by decide)] at h), fun h => by rw [getD_set_ne (by decide)] at h; rw [getD_set_ne (by decide)]; obtain ⟨e1, e2, e3⟩ := h14 h; exact ⟨e1, e2, e3⟩, fun h => by rw [getD_set_ne (by decide)] at h; rw [getD_set_ne (by decide)]; obtain ⟨e1, e2, e3⟩ := h15 h; exact ⟨e1, e2, e3⟩, fun h h2 => hpq (by rwa [getD_set_ne (by decide)] at h) (by rwa [getD_set_ne (by decide)] at h2), fun h => by rw [getD_set_ne (by decide)] at h ⊢; exact h16 h, fun h => by rw [getD_set_ne (by decide)] at h ⊢; exact h17 h⟩
        · skip
          have e3 := h3 (ready_dep hi (by kernel_rfl))
          subst e3
          refine wpOp_of rfl rfl ?_
          go_simp
          unfold NInv
          refine ⟨_, _, _, _, _, _, _, _, _, _, _, _, _, _, _, _, p, q, rfl, hB, fun h => h0 (by rwa [getD_set_ne (by decide)] at h), fun h => h1 (by rwa [getD_set_ne (by decide)] at h), fun h => h2 (by rwa [getD_set_ne (by decide)] at h), fun h => h3 (by rwa [getD_set_ne (by decide)] at h), fun _ => rfl, fun h => h5 (by rwa [getD_set_ne (by decide)] at h), fun h => h6 (by rwa [getD_set_ne (by decide)] at h), fun h => h7 (by rwa [getD_set_ne (by decide)] at h), fun h => h8 (by rwa [getD_set_ne (by decide)] at h), fun h => h9 (by rwa [getD_set_ne (by decide)] at h), fun h => h10 (by rwa [getD_set_ne (by decide)] at h), fun h => h11 (by rwa [getD_set_ne (by decide)] at h), fun h => h12 (by rwa [getD_set_ne (by decide)] at h), fun h => h13 (by rwa [getD_set_ne (by decide)] at h), fun h => by rw [getD_set_ne (by decide)] at h; rw [getD_set_ne (by decide)]; obtain ⟨e1, e2, e3⟩ := h14 h; exact ⟨e1, e2, e3⟩, fun h => by rw [getD_set_ne (by decide)] at h; rw [getD_set_ne (by decide)]; obtain ⟨e1, e2, e3⟩ := h15 h; exact ⟨e1, e2, e3⟩, fun h h2 => hpq (by rwa [getD_set_ne (by decide)] at h) (by rwa [getD_set_ne (by decide)] at h2), fun h => by rw [getD_set_ne (by decide)] at h ⊢; exact h16 h, fun h => by rw [getD_set_ne (by decide)] at h ⊢; exact h17 h⟩
        · skip
          have e4 := h4 (ready_dep hi (by kernel_rfl))
          subst e4
          have c0 := hcell (k := 1) (v := .int .i64 ax) hT' rfl
          have c1 := hcell (k := 2) (v := .int .i64 ay) hT' rfl
          have c2 := hcell (k := 3) (v := .int .i64 az) hT' rfl
          refine wpOp_of rfl rfl ?_
          go_simp
          unfold NInv
          refine ⟨_, _, _, _, _, _, _, _, _, _, _, _, _, _, _, _, p, q, rfl, hB, fun h => h0 (by rwa [getD_set_ne (by decide)] at h), fun h => h1 (by rwa [getD_set_ne (by decide)] at h), fun h => h2 (by rwa [getD_set_ne (by decide)] at h), fun h => h3 (by rwa [getD_set_ne (by decide)] at h), fun h => h4 (by rwa [getD_set_ne (by decide)] at h), fun _ => rfl, fun h => h6 (by rwa [getD_set_ne (by decide)] at h), fun h => h7 (by rwa [getD_set_ne (by decide)] at h), fun h => h8 (by rwa [getD_set_ne (by decide)] at h), fun h => h9 (by rwa [getD_set_ne (by decide)] at h), fun h => h10 (by rwa [getD_set_ne (by decide)] at h), fun h => h11 (by rwa [getD_set_ne (by decide)] at h), fun h => h12 (by rwa [getD_set_ne (by decide)] at h), fun h => h13 (by rwa [getD_set_ne (by decide)] at h), fun h => by rw [getD_set_ne (by decide)] at h; rw [getD_set_ne (by decide)]; obtain ⟨e1, e2, e3⟩ := h14 h; exact ⟨e1, e2, e3⟩, fun h => by rw [getD_set_ne (by decide)] at h; rw [getD_set_ne (by decide)]; obtain ⟨e1, e2, e3⟩ := h15 h; exact ⟨e1, e2, e3⟩, fun h h2 => hpq (by rwa [getD_set_ne (by decide)] at h) (by rwa [getD_set_ne (by decide)] at h2), fun h => by rw [getD_set_ne (by decide)] at h ⊢; exact h16 h, fun h => by rw [getD_set_ne (by decide)] at h ⊢; exact h17 h⟩
        · skip
          have e2 := h2 (ready_dep hi (by kernel_rfl))
          subst e2
          have e5 := h5 (ready_dep hi (by kernel_rfl))
          subst e5
          refine wpOp_of rfl rfl ?_
          go_simp
          go_at_call 62
          refine (less_s _ _ _ _ _ _ _ (by assumption) (by assumption) (by assumption) (by assumption) (by assumption) (by assumption)).mono ?_
          rintro e wz ⟨rfl, hbz⟩
          (try go_simp)
          unfold NInv
          refine ⟨_, _, _, _, _, _, _, _, _, _, _, _, _, _, _, _, p, q, rfl, hB.trans (hbz.mono hB.size), fun h => h0 (by rwa [getD_set_ne (by decide)] at h), fun h => h1 (by rwa [getD_set_ne (by decide)] at h), fun h => h2 (by rwa [getD_set_ne (by decide)] at h), fun h => h3 (by rwa [getD_set_ne (by decide)] at h), fun h => h4 (by rwa [getD_set_ne (by decide)] at h), fun h => h5 (by rwa [getD_set_ne (by decide)] at h), fun _ => rfl, fun h => h7 (by rwa [getD_set_ne (by decide)] at h), fun h => h8 (by rwa [getD_set_ne (by decide)] at h), fun h => h9 (by rwa [getD_set_ne (by decide)] at h), fun h => h10 (by rwa [getD_set_ne (by decide)] at h), fun h => h11 (by rwa [getD_set_ne (by decide)] at h), fun h => h12 (by rwa [getD_set_ne (by decide)] at h), fun h => h13 (by rwa [getD_set_ne (by decide)] at h), fun h => by rw [getD_set_ne (by decide)] at h; rw [getD_set_ne (by decide)]; obtain ⟨e1, e2, e3⟩ := h14 h; exact ⟨e1, e2, hkeep hbz e3⟩, fun h => by rw [getD_set_ne (by decide)] at h; rw [getD_set_ne (by decide)]; obtain ⟨e1, e2, e3⟩ := h15 h; exact ⟨e1, e2, hkeep hbz e3⟩, fun h h2 => hpq (by rwa [getD_set_ne (by decide)] at h) (by rwa [getD_set_ne (by decide)] at h2), fun h => by rw [getD_set_ne (by decide)] at h ⊢; exact h16 h, fun h => by rw [getD_set_ne (by decide)] at h ⊢; exact h17 h⟩
        · skip
          refine wpOp_of rfl rfl ?_
          go_simp
          unfold NInv
          refine ⟨_, _, _, _, _, _, _, _, _, _, _, _, _, _, _, _, p, q, rfl, hB, fun h => h0 (by rwa [getD_set_ne (by decide)] at h), fun h => h1 (by rwa [getD_set_ne (by decide)] at h), fun h => h2 (by rwa [getD_set_ne (by decide)] at h), fun h => h3 (by rwa [getD_set_ne (by decide)] at h), fun h => h4 (by rwa [getD_set_ne (by decide)] at h), fun h => h5 (by rwa [getD_set_ne (by decide)] at h), fun h => h6 (by rwa [getD_set_ne (by decide)] at h), fun _ => rfl, fun h => h8 (by rwa [getD_set_ne (by decide)] at h), fun h => h9 (by rwa [getD_set_ne (by decide)] at h), fun h => h10 (by rwa [getD_set_ne (by decide)] at h), fun h => h11 (by rwa [getD_set_ne (by decide)] at h), fun h => h12 (by rwa [getD_set_ne (by decide)] at h), fun h => h13 (by rwa [getD_set_ne (by decide)] at h), fun h => by rw [getD_set_ne (by decide)] at h; rw [getD_set_ne (by decide)]; obtain ⟨e1, e2, e3⟩ := h14 h; exact ⟨e1, e2, e3⟩, fun h => by rw [getD_set_ne (by decide)] at h; rw [getD_set_ne (by decide)]; obtain ⟨e1, e2, e3⟩ := h15 h; exact ⟨e1, e2, e3⟩, fun h h2 => hpq (by rwa [getD_set_ne (by decide)] at h) (by rwa [getD_set_ne (by decide)] at h2), fun h => by rw [getD_set_ne (by decide)] at h ⊢; exact h16 h, fun h => by rw [getD_set_ne (by decide)] at h ⊢; exact h17 h⟩
        · skip
          have e7 := h7 (ready_dep hi (by kernel_rfl))
          subst e7
          refine wpOp_of rfl rfl ?_
          go_simp
          unfold NInv
          refine ⟨_, _, _, _, _, _, _, _, _, _, _, _, _, _, _, _, p, q, rfl, hB, fun h => h0 (by rwa [getD_set_ne (by decide)] at h), fun h => h1 (by rwa [getD_set_ne (by decide)] at h), fun h => h2 (by rwa [getD_set_ne (by decide)] at h), fun h => h3 (by rwa [getD_set_ne (by decide)] at h), fun h => h4 (by rwa [getD_set_ne (by decide)] at h), fun h => h5 (by rwa [getD_set_ne (by decide)] at h), fun h => h6 (by rwa [getD_set_ne (by decide)] at h), fun h => h7 (by rwa [getD_set_ne (by decide)] at h), fun _ => rfl, fun h => h9 (by rwa [getD_set_ne (by decide)] at h), fun h => h10 (by rwa [getD_set_ne (by decide)] at h), fun h => h11 (by rwa [getD_set_ne (by decide)] at h), fun h => h12 (by rwa [getD_set_ne (by decide)] at h), fun h => h13 (by rwa [getD_set_ne (by decide)] at h), fun h => by rw [getD_set_ne (by decide)] at h; rw [getD_set_ne (by decide)]; obtain ⟨e1, e2, e3⟩ := h14 h; exact ⟨e1, e2, e3⟩, fun h => by rw [getD_set_ne (by decide)] at h; rw [getD_set_ne (by decide)]; obtain ⟨e1, e2, e3⟩ := h15 h; exact ⟨e1, e2, e3⟩, fun h h2 => hpq (by rwa [getD_set_ne (by decide)] at h) (by rwa [getD_set_ne (by decide)] at h2), fun h => by rw [getD_set_ne (by decide)] at h ⊢; exact h16 h, fun h => by rw [getD_set_ne (by decide)] at h ⊢; exact h17 h⟩
        · skip
          have e8 := h8 (ready_dep hi (by kernel_rfl))
          subst e8
          have c0 := hcell (k := 7) (v := .int .i64 cx) hT' rfl
          have c1 := hcell (k := 8) (v := .int .i64 cy) hT' rfl
          have c2 := hcell (k := 9) (v := .int .i64 cz) hT' rfl
          refine wpOp_of rfl rfl ?_
          go_simp
          unfold NInv
          refine ⟨_, _, _, _, _, _, _, _, _, _, _, _, _, _, _, _, p, q, rfl, hB, fun h => h0 (by rwa [getD_set_ne (by decide)] at h), fun h => h1 (by rwa [getD_set_ne (by decide)] at h), fun h => h2 (by rwa [getD_set_ne (by decide)] at h), fun h => h3 (by rwa [getD_set_ne (by decide)] at h), fun h => h4 (by rwa [getD_set_ne (by decide)] at h), fun h => h5 (by rwa [getD_set_ne (by decide)] at h), fun h => h6 (by rwa [getD_set_ne (by decide)] at h), fun h => h7 (by rwa [getD_set_ne (by decide)] at h), fun h => h8 (by rwa [getD_set_ne (by decide)] at h), fun _ => rfl, fun h => h10 (by rwa [getD_set_ne (by decide)] at h), fun h => h11 (by rwa [getD_set_ne (by decide)] at h), fun h => h12 (by rwa [getD_set_ne (by decide)] at h), fun h => h13 (by rwa [getD_set_ne (by decide)] at h), fun h => by rw [getD_set_ne (by decide)] at h; rw [getD_set_ne (by decide)]; obtain ⟨e1, e2, e3⟩ := h14 h; exact ⟨e1, e2, e3⟩, fun h => by rw [getD_set_ne (by decide)] at h; rw [getD_set_ne (by decide)]; obtain ⟨e1, e2, e3⟩ := h15 h; exact ⟨e1, e2, e3⟩, fun h h2 => hpq (by rwa [getD_set_ne (by decide)] at h) (by rwa [getD_set_ne (by decide)] at h2), fun h => by rw [getD_set_ne (by decide)] at h ⊢; exact h16 h, fun h => by rw [getD_set_ne (by decide)] at h ⊢; exact h17 h⟩
        · skip
          refine wpOp_of rfl rfl ?_
          go_simp
          unfold NInv
          refine ⟨_, _, _, _, _, _, _, _, _, _, _, _, _, _, _, _, p, q, rfl, hB, fun h => h0 (by rwa [getD_set_ne (by decide)] at h), fun h => h1 (by rwa [getD_set_ne (by decide)] at h), fun h => h2 (by rwa [getD_set_ne (by decide)] at h), fun h => h3 (by rwa [getD_set_ne (by decide)] at h), fun h => h4 (by rwa [getD_set_ne (by decide)] at h), fun h => h5 (by rwa [getD_set_ne (by decide)] at h), fun h => h6 (by rwa [getD_set_ne (by decide)] at h), fun h => h7 (by rwa [getD_set_ne (by decide)] at h), fun h => h8 (by rwa [getD_set_ne (by decide)] at h), fun h => h9 (by rwa [getD_set_ne (by decide)] at h), fun _ => rfl, fun h => h11 (by rwa [getD_set_ne (by decide)] at h), fun h => h12 (by rwa [getD_set_ne (by decide)] at h), fun h => h13 (by rwa [getD_set_ne (by decide)] at h), fun h => by rw [getD_set_ne (by decide)] at h; rw [getD_set_ne (by decide)]; obtain ⟨e1, e2, e3⟩ := h14 h; exact ⟨e1, e2, e3⟩, fun h => by rw [getD_set_ne (by decide)] at h; rw [getD_set_ne (by decide)]; obtain ⟨e1, e2, e3⟩ := h15 h; exact ⟨e1, e2, e3⟩, fun h h2 => hpq (by rwa [getD_set_ne (by decide)] at h) (by rwa [getD_set_ne (by decide)] at h2), fun h => by rw [getD_set_ne (by decide)] at h ⊢; exact h16 h, fun h => by rw [getD_set_ne (by decide)] at h ⊢; exact h17 h⟩
        · skip
          have e10 := h10 (ready_dep hi (by kernel_rfl))
          subst e10
          refine wpOp_of rfl rfl ?_
          go_simp
          unfold NInv
          refine ⟨_, _, _, _, _, _, _, _, _, _, _, _, _, _, _, _, p, q, rfl, hB, fun h => h0 (by rwa [getD_set_ne (by decide)] at h), fun h => h1 (by rwa [getD_set_ne (by decide)] at h), fun h => h2 (by rwa [getD_set_ne (by decide)] at h), fun h => h3 (by rwa [getD_set_ne (by decide)] at h), fun h => h4 (by rwa [getD_set_ne (by decide)] at h), fun h => h5 (by rwa [getD_set_ne (by decide)] at h), fun h => h6 (by rwa [getD_set_ne (by decide)] at h), fun h => h7 (by rwa [getD_set_ne (by decide)] at h), fun h => h8 (by rwa [getD_set_ne (by decide)] at h), fun h => h9 (by rwa [getD_set_ne (by decide)] at h), fun h => h10 (by rwa [getD_set_ne (by decide)] at h), fun _ => rfl, fun h => h12 (by rwa [getD_set_ne (by decide)] at h), fun h => h13 (by rwa [getD_set_ne (by decide)] at h), fun h => by rw [getD_set_ne (by decide)] at h; rw [getD_set_ne (by decide)]; obtain ⟨e1, e2, e3⟩ := h14 h; exact ⟨e1, e2, e3⟩, fun h => by rw [getD_set_ne (by decide)] at h; rw [getD_set_ne (by decide)]; obtain ⟨e1, e2, e3⟩ := h15 h; exact ⟨e1, e2, e3⟩, fun h h2 => hpq (by rwa [getD_set_ne (by decide)] at h) (by rwa [getD_set_ne (by decide)] at h2), fun h => by rw [getD_set_ne (by decide)] at h ⊢; exact h16 h, fun h => by rw [getD_set_ne (by decide)] at h ⊢; exact h17 h⟩
        · skip
          have e11 := h11 (ready_dep hi (by kernel_rfl))
          subst e11
          have c0 := hcell (k := 1) (v := .int .i64 ax) hT' rfl
          have c1 := hcell (k := 2) (v := .int .i64 ay) hT' rfl
          have c2 := hcell (k := 3) (v := .int .i64 az) hT' rfl
          refine wpOp_of rfl rfl ?_
          go_simp
          unfold NInv
          refine ⟨_, _, _, _, _, _, _, _, _, _, _, _, _, _, _, _, p, q, rfl, hB, fun h => h0 (by rwa [getD_set_ne (by decide)] at h), fun h => h1 (by rwa [getD_set_ne (by decide)] at h), fun h => h2 (by rwa [getD_set_ne (by decide)] at h), fun h => h3 (by rwa [getD_set_ne (by decide)] at h), fun h => h4 (by rwa [getD_set_ne (by decide)] at h), fun h => h5 (by rwa [getD_set_ne (by decide)] at h), fun h => h6 (by rwa [getD_set_ne (by decide)] at h), fun h => h7 (by rwa [getD_set_ne (by decide)] at h), fun h => h8 (by rwa [getD_set_ne (by decide)] at h), fun h => h9 (by rwa [getD_set_ne (by decide)] at h), fun h => h10 (by rwa [getD_set_ne (by decide)] at h), fun h => h11 (by rwa [getD_set_ne (by decide)] at h), fun _ => rfl, fun h => h13 (by rwa [getD_set_ne (by decide)] at h), fun h => by rw [getD_set_ne (by decide)] at h; rw [getD_set_ne (by decide)]; obtain ⟨e1, e2, e3⟩ := h14 h; exact ⟨e1, e2, e3⟩, fun h => by rw [getD_set_ne (by decide)] at h; rw [getD_set_ne (by decide)]; obtain ⟨e1, e2, e3⟩ := h15 h; exact ⟨e1, e2, e3⟩, fun h h2 => hpq (by rwa [getD_set_ne (by decide)] at h) (by rwa [getD_set_ne (by decide)] at h2), fun h => by rw [getD_set_ne (by decide)] at h ⊢; exact h16 h, fun h => by rw [getD_set_ne (by decide)] at h ⊢; exact h17 h⟩
        · skip
          have e9 := h9 (ready_dep hi (by kernel_rfl))
          subst e9
          have e12 := h12 (ready_dep hi (by kernel_rfl))
          subst e12
          refine wpOp_of rfl rfl ?_
          go_simp
          go_at_call 62
          refine (less_s _ _ _ _ _ _ _ (by assumption) (by assumption) (by assumption) (by assumption) (by assumption) (by assumption)).mono ?_
          rintro e wz ⟨rfl, hbz⟩
          (try go_simp)
          unfold NInv
          refine ⟨_, _, _, _, _, _, _, _, _, _, _, _, _, _, _, _, p, q, rfl, hB.trans (hbz.mono hB.size), fun h => h0 (by rwa [getD_set_ne (by decide)] at h), fun h => h1 (by rwa [getD_set_ne (by decide)] at h), fun h => h2 (by rwa [getD_set_ne (by decide)] at h), fun h => h3 (by rwa [getD_set_ne (by decide)] at h), fun h => h4 (by rwa [getD_set_ne (by decide)] at h), fun h => h5 (by rwa [getD_set_ne (by decide)] at h), fun h => h6 (by rwa [getD_set_ne (by decide)] at h), fun h => h7 (by rwa [getD_set_ne (by decide)] at h), fun h => h8 (by rwa [getD_set_ne (by decide)] at h), fun h => h9 (by rwa [getD_set_ne (by decide)] at h), fun h => h10 (by rwa [getD_set_ne (by decide)] at h), fun h => h11 (by rwa [getD_set_ne (by decide)] at h), fun h => h12 (by rwa [getD_set_ne (by decide)] at h), fun _ => rfl, fun h => by rw [getD_set_ne (by decide)] at h; rw [getD_set_ne (by decide)]; obtain ⟨e1, e2, e3⟩ := h14 h; exact ⟨e1, e2, hkeep hbz e3⟩, fun h => by rw [getD_set_ne (by decide)] at h; rw [getD_set_ne (by decide)]; obtain ⟨e1, e2, e3⟩ := h15 h; exact ⟨e1, e2, hkeep hbz e3⟩, fun h h2 => hpq (by rwa [getD_set_ne (by decide)] at h) (by rwa [getD_set_ne (by decide)] at h2), fun h => by rw [getD_set_ne (by decide)] at h ⊢; exact h16 h, fun h => by rw [getD_set_ne (by decide)] at h ⊢; exact h17 h⟩
        · skip
          refine wpOp_of rfl rfl ?_
          go_simp
          unfold NInv
          refine ⟨_, _, _, _, _, _, _, _, _, _, _, _, _, _, _, _, w.heap.size, q, rfl, hB.alloc hB.size _, fun h => h0 (by rwa [getD_set_ne (by decide)] at h), fun h => h1 (by rwa [getD_set_ne (by decide)] at h), fun h => h2 (by rwa [getD_set_ne (by decide)] at h), fun h => h3 (by rwa [getD_set_ne (by decide)] at h), fun h => h4 (by rwa [getD_set_ne (by decide)] at h), fun h => h5 (by rwa [getD_set_ne (by decide)] at h), fun h => h6 (by rwa [getD_set_ne (by decide)] at h), fun h => h7 (by rwa [getD_set_ne (by decide)] at h), fun h => h8 (by rwa [getD_set_ne (by decide)] at h), fun h => h9 (by rwa [getD_set_ne (by decide)] at h), fun h => h10 (by rwa [getD_set_ne (by decide)] at h), fun h => h11 (by rwa [getD_set_ne (by decide)] at h), fun h => h12 (by rwa [getD_set_ne (by decide)] at h), fun h => h13 (by rwa [getD_set_ne (by decide)] at h), fun _ => ⟨rfl, hB.size, by rw [getD_set_ne (by decide)]; have n16 : L.getD 16 false = false := (by cases h : L.getD 16 false with | false => rfl | true => rw [h16 h] at hi'; cases hi'); rw [n16]; exact World.alloc_heap_new _ _⟩, fun h => by rw [getD_set_ne (by decide)] at h; rw [getD_set_ne (by decide)]; obtain ⟨e1, e2, e3⟩ := h15 h; exact ⟨e1, e2, halloc e3 _⟩, fun _ h => by rw [getD_set_ne (by decide)] at h; have := hblt (h15 h).2.2; omega, fun _ => getD_set_eq (by omega) _, fun h => by rw [getD_set_ne (by decide)] at h ⊢; exact h17 h⟩
        · skip
          refine wpOp_of rfl rfl ?_
          go_simp
          unfold NInv
          refine ⟨_, _, _, _, _, _, _, _, _, _, _, _, _, _, _, _, p, w.heap.size, rfl, hB.alloc hB.size _, fun h => h0 (by rwa [getD_set_ne (by decide)] at h), fun h => h1 (by rwa [getD_set_ne (by decide)] at h), fun h => h2 (by rwa [getD_set_ne (by decide)] at h), fun h => h3 (by rwa [getD_set_ne (by decide)] at h), fun h => h4 (by rwa [getD_set_ne (by decide)] at h), fun h => h5 (by rwa [getD_set_ne (by decide)] at h), fun h => h6 (by rwa [getD_set_ne (by decide)] at h), fun h => h7 (by rwa [getD_set_ne (by decide)] at h), fun h => h8 (by rwa [getD_set_ne (by decide)] at h), fun h => h9 (by rwa [getD_set_ne (by decide)] at h), fun h => h10 (by rwa [getD_set_ne (by decide)] at h), fun h => h11 (by rwa [getD_set_ne (by decide)] at h), fun h => h12 (by rwa [getD_set_ne (by decide)] at h), fun h => h13 (by rwa [getD_set_ne (by decide)] at h), fun h => by rw [getD_set_ne (by decide)] at h; rw [getD_set_ne (by decide)]; obtain ⟨e1, e2, e3⟩ := h14 h; exact ⟨e1, e2, halloc e3 _⟩, fun _ => ⟨rfl, hB.size, by rw [getD_set_ne (by decide)]; have n17 : L.getD 17 false = false := (by cases h : L.getD 17 false with | false => rfl | true => rw [h17 h] at hi'; cases hi'); rw [n17]; exact World.alloc_heap_new _ _⟩, fun h _ => by rw [getD_set_ne (by decide)] at h; have := hblt (h14 h).2.2; omega, fun h => by rw [getD_set_ne (by decide)] at h ⊢; exact h16 h, fun _ => getD_set_eq (by omega) _⟩
        · skip
          have e6 := h6 (ready_dep hi (by kernel_rfl))
          subst e6
          obtain ⟨e1, e2, e3⟩ := h14 (ready_dep hi (by kernel_rfl))
          subst e1
          rw [hi'] at e3
          have e3 : w.heap[p]? = some (.cells #[.int .i64 0, .int .i64 0, .int .i64 0] 74 (0, 0)) := e3
          have f0 := hfroz (k := 0) e3
          have z0 := hcell (k := 0) (v := .int .i64 0) e3 rfl
          have f1 := hfroz (k := 1) e3
          have z1 := hcell (k := 1) (v := .int .i64 0) e3 rfl
          have f2 := hfroz (k := 2) e3
          have z2 := hcell (k := 2) (v := .int .i64 0) e3 rfl
          have hG := box3_grown (w := w) (b := p) (.int .i64 (bx - ax)) (.int .i64 (by_ - ay)) (.int .i64 (bz - az))
          have hN := box3_set e3 (.int .i64 (bx - ax)) (.int .i64 (by_ - ay)) (.int .i64 (bz - az))
          refine wpOp_of rfl rfl ?_
          go_simp
          unfold NInv
          refine ⟨_, _, _, _, _, _, _, _, _, _, _, _, _, _, _, _, p, q, rfl, hB.grown hG hB.size (fun j hj => by cases hj; omega), fun h => h0 (by rwa [getD_set_ne (by decide)] at h), fun h => h1 (by rwa [getD_set_ne (by decide)] at h), fun h => h2 (by rwa [getD_set_ne (by decide)] at h), fun h => h3 (by rwa [getD_set_ne (by decide)] at h), fun h => h4 (by rwa [getD_set_ne (by decide)] at h), fun h => h5 (by rwa [getD_set_ne (by decide)] at h), fun h => h6 (by rwa [getD_set_ne (by decide)] at h), fun h => h7 (by rwa [getD_set_ne (by decide)] at h), fun h => h8 (by rwa [getD_set_ne (by decide)] at h), fun h => h9 (by rwa [getD_set_ne (by decide)] at h), fun h => h10 (by rwa [getD_set_ne (by decide)] at h), fun h => h11 (by rwa [getD_set_ne (by decide)] at h), fun h => h12 (by rwa [getD_set_ne (by decide)] at h), fun h => h13 (by rwa [getD_set_ne (by decide)] at h), fun _ => ⟨rfl, e2, by rw [getD_set_eq (by omega)]; exact hN⟩, fun h => by rw [getD_set_ne (by decide)] at h; rw [getD_set_ne (by decide)]; obtain ⟨e1, e2, e3⟩ := h15 h; exact ⟨e1, e2, hgrown hG e3 (by simp; exact hpq (ready_dep hi (by kernel_rfl)) h)⟩, fun h h2 => hpq (by rwa [getD_set_ne (by decide)] at h) (by rwa [getD_set_ne (by decide)] at h2), fun _ => by rw [getD_set_ne (by decide)]; exact ready_dep hi (by kernel_rfl), fun h => by rw [getD_set_ne (by decide)] at h ⊢; exact h17 h⟩
        · skip
          have e13 := h13 (ready_dep hi (by kernel_rfl))
          subst e13
          obtain ⟨e1, e2, e3⟩ := h15 (ready_dep hi (by kernel_rfl))
          subst e1
          rw [hi'] at e3
          have e3 : w.heap[q]? = some (.cells #[.int .i64 0, .int .i64 0, .int .i64 0] 74 (0, 0)) := e3
          have f0 := hfroz (k := 0) e3
          have z0 := hcell (k := 0) (v := .int .i64 0) e3 rfl
          have f1 := hfroz (k := 1) e3
          have z1 := hcell (k := 1) (v := .int .i64 0) e3 rfl
          have f2 := hfroz (k := 2) e3
          have z2 := hcell (k := 2) (v := .int .i64 0) e3 rfl
          have hG := box3_grown (w := w) (b := q) (.int .i64 (cx - ax)) (.int .i64 (cy - ay)) (.int .i64 (cz - az))
          have hN := box3_set e3 (.int .i64 (cx - ax)) (.int .i64 (cy - ay)) (.int .i64 (cz - az))
          refine wpOp_of rfl rfl ?_
          go_simp
          unfold NInv
          refine ⟨_, _, _, _, _, _, _, _, _, _, _, _, _, _, _, _, p, q, rfl, hB.grown hG hB.size (fun j hj => by cases hj; omega), fun h => h0 (by rwa [getD_set_ne (by decide)] at h), fun h => h1 (by rwa [getD_set_ne (by decide)] at h), fun h => h2 (by rwa [getD_set_ne (by decide)] at h), fun h => h3 (by rwa [getD_set_ne (by decide)] at h), fun h => h4 (by rwa [getD_set_ne (by decide)] at h), fun h => h5 (by rwa [getD_set_ne (by decide)] at h), fun h => h6 (by rwa [getD_set_ne (by decide)] at h), fun h => h7 (by rwa [getD_set_ne (by decide)] at h), fun h => h8 (by rwa [getD_set_ne (by decide)] at h), fun h => h9 (by rwa [getD_set_ne (by decide)] at h), fun h => h10 (by rwa [getD_set_ne (by decide)] at h), fun h => h11 (by rwa [getD_set_ne (by decide)] at h), fun h => h12 (by rwa [getD_set_ne (by decide)] at h), fun h => h13 (by rwa [getD_set_ne (by decide)] at h), fun h => by rw [getD_set_ne (by decide)] at h; rw [getD_set_ne (by decide)]; obtain ⟨e1, e2, e3⟩ := h14 h; exact ⟨e1, e2, hgrown hG e3 (by simp; exact fun e => hpq h (ready_dep hi (by kernel_rfl)) e.symm)⟩, fun _ => ⟨rfl, e2, by rw [getD_set_eq (by omega)]; exact hN⟩, fun h h2 => hpq (by rwa [getD_set_ne (by decide)] at h) (by rwa [getD_set_ne (by decide)] at h2), fun h => by rw [getD_set_ne (by decide)] at h ⊢; exact h16 h, fun _ => by rw [getD_set_ne (by decide)]; exact ready_dep hi (by kernel_rfl)⟩
      · intro L a w hI hall
        unfold NInv at hI
        obtain ⟨s6, s7, s11, s12, s13, s14, s15, s16, s17, s18, s19, s20, s21, s22, s23, s24, p, q, rfl, hB, h0, h1, h2, h3, h4, h5, h6, h7, h8, h9, h10, h11, h12, h13, h14, h15, hpq, h16, h17⟩ := hI
        obtain ⟨e14, _, g14⟩ := h14 (hall 14 (by decide))
        obtain ⟨e15, _, g15⟩ := h15 (hall 15 (by decide))
        rw [if_pos (hall 16 (by decide))] at g14
        rw [if_pos (hall 17 (by decide))] at g15
        subst e14 e15
        go_wp2
        go_meet
        exact ⟨p, q, rfl, rfl, g14, g15, hB⟩
    case rest =>
    obtain ⟨p, q, rfl, rfl, hp, hq, hbw⟩ := hcut
    have hB3 := hB1.trans (hbw.mono hB1.size)
    have d0 := hcell (k := 0) (v := .int .i64 (bx - ax)) hp rfl
    have d1 := hcell (k := 1) (v := .int .i64 (by_ - ay)) hp rfl
    have d2 := hcell (k := 2) (v := .int .i64 (bz - az)) hp rfl
    have g0 := hcell (k := 0) (v := .int .i64 (cx - ax)) hq rfl
    have g1 := hcell (k := 1) (v := .int .i64 (cy - ay)) hq rfl
    have g2 := hcell (k := 2) (v := .int .i64 (cz - az)) hq rfl
    clear hp hq hbw hT1 hB1
    have HN : Hid (r = if (bz - az) * (cx - ax) - (bx - ax) * (cz - az) = 0 then (0, 0, 0, 40) else ((by_ - ay) * (cz - az) - (bz - az) * (cy - ay), (bz - az) * (cx - ax) - (bx - ax) * (cz - az), (bx - ax) * (cy - ay) - (by_ - ay) * (cx - ax), 0)) := by
      show _ = _
      rw [HR.out]
      unfold nrmE nxV nyV nzV
      rw [hc]
      dsimp only
      by_cases h : (bz - az) * (cx - ax) - (bx - ax) * (cz - az) = 0 <;> simp [h]
    have b1 := mulB (x := bz - az) (y := cx - ax) (K := 32) (L := 32) (by omega) (by omega)
    have b2 := mulB (x := bx - ax) (y := cz - az) (K := 32) (L := 32) (by omega) (by omega)
    have b3 := mulB (x := by_ - ay) (y := cz - az) (K := 4096) (L := 32) (by omega) (by omega)
    have b4 := mulB (x := bz - az) (y := cy - ay) (K := 32) (L := 4096) (by omega) (by omega)
    have b5 := mulB (x := bx - ax) (y := cy - ay) (K := 32) (L := 4096) (by omega) (by omega)
    have b6 := mulB (x := by_ - ay) (y := cx - ax) (K := 4096) (L := 32) (by omega) (by omega)
    clear HR hc hci k1 k2 k3 k4 k5 k6 k7 k8 k9
    generalize bx - ax = ux at *
    generalize by_ - ay = uy at *
    generalize bz - az = uz at *
    generalize cx - ax = vx at *
    generalize cy - ay = vy at *
    generalize cz - az = vz at *
    have w1 : IntKind.i64.wrap (uz * vx) = uz * vx := by rw [IntKind.wrap_i64]; omega
    have w2 : IntKind.i64.wrap (ux * vz) = ux * vz := by rw [IntKind.wrap_i64]; omega
    have w3 : IntKind.i64.wrap (uz * vx - ux * vz) = uz * vx - ux * vz := by rw [IntKind.wrap_i64]; omega
    have w4 : IntKind.i64.wrap (uy * vz) = uy * vz := by rw [IntKind.wrap_i64]; omega
    have w5 : IntKind.i64.wrap (uz * vy) = uz * vy := by rw [IntKind.wrap_i64]; omega
    have w6 : IntKind.i64.wrap (uy * vz - uz * vy) = uy * vz - uz * vy := by rw [IntKind.wrap_i64]; omega
    have w7 : IntKind.i64.wrap (ux * vy) = ux * vy := by rw [IntKind.wrap_i64]; omega
    have w8 : IntKind.i64.wrap (uy * vx) = uy * vx := by rw [IntKind.wrap_i64]; omega
    have w9 : IntKind.i64.wrap (ux * vy - uy * vx) = ux * vy - uy * vx := by rw [IntKind.wrap_i64]; omega
    clear b1 b2 b3 b4 b5 b6
    by_cases h0 : uz * vx - ux * vz = 0
    · have HN2 : Hid (r = (0, 0, 0, 40)) := by show _ = _; rw [HN.out, if_pos h0]
      have e := HN2.out
      subst e
      clear HN
      go_wp2
      ((try simp only [Exit.inBlock, Exit.then]); refine bodyPost_ret (results_n4 rfl _ _ _) rfl ?_)
      exact ⟨rfl, hB3⟩
    · have HN2 : Hid (r = (uy * vz - uz * vy, uz * vx - ux * vz, ux * vy - uy * vx, 0)) := by show _ = _; rw [HN.out, if_neg h0]
      have e := HN2.out
      subst e
      clear HN
      have e_d0 := fun d os => cell_regrown d0 d os
      have e_d1 := fun d os => cell_regrown d1 d os
      have e_d2 := fun d os => cell_regrown d2 d os
      have e_g0 := fun d os => cell_regrown g0 d os
      have e_g1 := fun d os => cell_regrown g1 d os
      have e_g2 := fun d os => cell_regrown g2 d os
      go_upto_region 7 with fail
      refine wp_region_quiet_below (by kernel_rfl) (by kernel_rfl) ?_
      repeat (go_big_quiet_step (fail))
      refine wpQuiet_nil ?_
      rintro w4 ⟨⟨dq, osq⟩, hw4⟩
      have hb4 : Below w.heap.size w w4 := by rw [hw4]; exact hB3.trans ((below_regrown wc dq osq).mono hB3.size)
      clear hw4 e_d0 e_d1 e_d2 e_g0 e_g1 e_g2
      go_wp2
      ((try simp only [Exit.inBlock, Exit.then]); refine bodyPost_ret (results_n4 rfl _ _ _) rfl ?_)
      exact ⟨rfl, hb4⟩
end Go.Proofs.YtjiklfffcnfdjaaGreat

namespace Go.Proofs.YtjiklfffcnfdjaaGreat
open Go.RowKit
attribute [local go_sem] Instr.index

abbrev cfgO (c : Cfg) : Obj := .cells #[.int .i64 c.clear, .int .i64 c.climb, .int .i64 c.height, .int .i64 c.rise, .int .i64 c.run, .int .i64 c.w, .int .i64 c.d] 23 (0, 0)
def checkE (cf : Cfg) (t : Tr) : Int := if (decide (1 ≤ t.id) && decide (t.id ≤ 1073741824)) && trMay cf.w cf.d t then 0 else 40
theorem nrm_ok {t : Tr} (h : (crnOk 32 32 t && decide (nyV t ≠ 0)) = true) : nrmE t = (nxV t, nyV t, nzV t, 0) := by unfold nrmE; rw [if_pos h]
theorem nrm_no {t : Tr} (h : (crnOk 32 32 t && decide (nyV t ≠ 0)) = false) : nrmE t = (0, 0, 0, 40) := by unfold nrmE; rw [h]; rfl
theorem may_nrm {cf : Cfg} {t : Tr} (hc : cfgOk cf = true) (h : trMay cf.w cf.d t = true) : (crnOk 32 32 t && decide (nyV t ≠ 0)) = true := by
  rw [trMay_crn, Bool.and_eq_true] at h
  rw [crn_mono (cfg_wd hc).1 (cfg_wd hc).2 h.1, h.2]
  rfl
set_option maxRecDepth 100000 in
set_option maxHeartbeats 4000000 in
theorem check_any (cf : Cfg) (t : Tr) (w : World) (hc : cfgOk cf = true) :
    Calls Tryz.prog 35 #[cfgV cf, trA t] w fun e w' => e = .returned (.int .i64 (checkE cf t)) ∧ Below w.heap.size w w' := by
  have CF := Lib.hid (fun W => cfgcheck_any cf W)
  have NO := Lib.hid (fun W => normal_any t W)
  have CO := Lib.hid (fun W => trcorners_any cf.w cf.d t W)
  have h0 : cfgE cf = 0 := by unfold cfgE; rw [if_pos hc]
  rw [h0] at CF
  clear h0
  have hC := halloc (World.alloc_heap_new w (cfgO cf)) (trO t.id t.a t.b t.c)
  have hT := World.alloc_heap_new (w.alloc (cfgO cf)) (trO t.id t.a t.b t.c)
  have hB : Below w.heap.size w ((w.alloc (cfgO cf)).alloc (trO t.id t.a t.b t.c)) := ((Below.refl _ _).alloc (Nat.le_refl _) _).alloc (by simp) _
  simp only [World.size_alloc] at hT
  obtain ⟨r, hr⟩ : ∃ r, r = checkE cf t := ⟨_, rfl⟩
  rw [← hr]
  have HR := Lib.hid hr
  clear hr
  cases hn : (crnOk 32 32 t && decide (nyV t ≠ 0)) with
  | false =>
    rw [nrm_no hn] at NO
    have HR2 : Hid (r = 40) := by
      show _ = _
      rw [HR.out]
      unfold checkE
      have : trMay cf.w cf.d t = false := by
        cases h : trMay cf.w cf.d t with
        | false => rfl
        | true => rw [may_nrm hc h] at hn; cases hn
      rw [this, Bool.and_false]
      rfl
    clear HR hn hc CO
    obtain ⟨i, ⟨ax, ay, az⟩, ⟨bx, by_, bz⟩, ⟨cx, cy, cz⟩⟩ := t
    obtain ⟨clear_, climb, height, rise, run, cw, cd⟩ := cf
    dsimp only [trO, trA, cfgO, cfgV] at CF NO hB hT hC ⊢
    go_enter Tryz.func35, Tryz.ntmps35
    go_wp2_with fail
    refine (CF.out _).mono ?_
    rintro e w1 ⟨rfl, hb1⟩
    have hT1 := hkeep hb1 hT
    have hB1 := hB.trans (hb1.mono hB.size)
    clear hb1 hB hT hC
    have t0 := hcell (k := 0) (v := .int .i64 i) hT1 rfl
    have t1 := hcell (k := 1) (v := .int .i64 ax) hT1 rfl
    have t2 := hcell (k := 2) (v := .int .i64 ay) hT1 rfl
    have t3 := hcell (k := 3) (v := .int .i64 az) hT1 rfl
    have t4 := hcell (k := 4) (v := .int .i64 bx) hT1 rfl
    have t5 := hcell (k := 5) (v := .int .i64 by_) hT1 rfl
    have t6 := hcell (k := 6) (v := .int .i64 bz) hT1 rfl
    have t7 := hcell (k := 7) (v := .int .i64 cx) hT1 rfl
    have t8 := hcell (k := 8) (v := .int .i64 cy) hT1 rfl
    have t9 := hcell (k := 9) (v := .int .i64 cz) hT1 rfl
    clear hT1
    go_wp2_with fail
    refine (NO.out _).mono ?_
    rintro e w2 ⟨rfl, hb2⟩
    have hB2 := hB1.trans (hb2.mono hB1.size)
    clear t0 t1 t2 t3 t4 t5 t6 t7 t8 t9 hb2 hB1
    go_wp2
    go_ret
    exact ⟨ret_int HR2.out.symm, hB2⟩
  | true =>
    rw [nrm_ok hn] at NO
    have HR2 : Hid (r = if decide (1 ≤ t.id) && decide (t.id ≤ 1073741824) && crnOk cf.w cf.d t then 0 else 40) := by
      show _ = _
      rw [HR.out]
      unfold checkE
      rw [Bool.and_eq_true] at hn
      rw [trMay_crn, hn.2, Bool.and_true]
    clear HR hn hc
    generalize crnOk cf.w cf.d t = k at CO HR2
    generalize nxV t = nx at NO
    generalize nyV t = ny at NO
    generalize nzV t = nz at NO
    obtain ⟨i, ⟨ax, ay, az⟩, ⟨bx, by_, bz⟩, ⟨cx, cy, cz⟩⟩ := t
    obtain ⟨clear_, climb, height, rise, run, cw, cd⟩ := cf
    dsimp only [trO, trA, cfgO, cfgV] at CF NO CO hB hT hC HR2 ⊢
    go_enter Tryz.func35, Tryz.ntmps35
    go_wp2_with fail
    refine (CF.out _).mono ?_
    rintro e w1 ⟨rfl, hb1⟩
    have hT1 := hkeep hb1 hT
    have hC1 := hkeep hb1 hC
    have hB1 := hB.trans (hb1.mono hB.size)
    clear hb1 hB hT hC
    have t0 := hcell (k := 0) (v := .int .i64 i) hT1 rfl
    have t1 := hcell (k := 1) (v := .int .i64 ax) hT1 rfl
    have t2 := hcell (k := 2) (v := .int .i64 ay) hT1 rfl
    have t3 := hcell (k := 3) (v := .int .i64 az) hT1 rfl
    have t4 := hcell (k := 4) (v := .int .i64 bx) hT1 rfl
    have t5 := hcell (k := 5) (v := .int .i64 by_) hT1 rfl
    have t6 := hcell (k := 6) (v := .int .i64 bz) hT1 rfl
    have t7 := hcell (k := 7) (v := .int .i64 cx) hT1 rfl
    have t8 := hcell (k := 8) (v := .int .i64 cy) hT1 rfl
    have t9 := hcell (k := 9) (v := .int .i64 cz) hT1 rfl
    go_wp2_with fail
    refine (NO.out _).mono ?_
    rintro e w2 ⟨rfl, hb2⟩
    have hT2 := hkeep hb2 hT1
    have hC2 := hkeep hb2 hC1
    have hB2 := hB1.trans (hb2.mono hB1.size)
    clear t0 t1 t2 t3 t4 t5 t6 t7 t8 t9 hb2 hB1 hT1 hC1
    have t0 := hcell (k := 0) (v := .int .i64 i) hT2 rfl
    have t1 := hcell (k := 1) (v := .int .i64 ax) hT2 rfl
    have t2 := hcell (k := 2) (v := .int .i64 ay) hT2 rfl
    have t3 := hcell (k := 3) (v := .int .i64 az) hT2 rfl
    have t4 := hcell (k := 4) (v := .int .i64 bx) hT2 rfl
    have t5 := hcell (k := 5) (v := .int .i64 by_) hT2 rfl
    have t6 := hcell (k := 6) (v := .int .i64 bz) hT2 rfl
    have t7 := hcell (k := 7) (v := .int .i64 cx) hT2 rfl
    have t8 := hcell (k := 8) (v := .int .i64 cy) hT2 rfl
    have t9 := hcell (k := 9) (v := .int .i64 cz) hT2 rfl
    have c5 := hcell (k := 5) (v := .int .i64 cw) hC2 rfl
    have c6 := hcell (k := 6) (v := .int .i64 cd) hC2 rfl
    clear hT2 hC2
    by_cases h1 : i < 1
    · have HR3 : Hid (r = 40) := by show _ = _; rw [HR2.out, decide_eq_false (show ¬ 1 ≤ i by omega)]; rfl
      go_wp2
      go_ret
      exact ⟨ret_int HR3.out.symm, hB2⟩
    by_cases h2 : 1073741824 < i
    · have HR3 : Hid (r = 40) := by show _ = _; rw [HR2.out, decide_eq_false (show ¬ i ≤ 1073741824 by omega), Bool.and_false]; rfl
      go_wp2
      go_ret
      exact ⟨ret_int HR3.out.symm, hB2⟩
    have HR3 : Hid (r = if k then 0 else 40) := by show _ = _; rw [HR2.out, decide_eq_true (show 1 ≤ i by omega), decide_eq_true (show i ≤ 1073741824 by omega)]; rfl
    clear HR2
    go_wp2_with fail
    refine (CO.out _).mono ?_
    rintro e w3 ⟨rfl, hb3⟩
    have hB3 := hB2.trans (hb3.mono hB2.size)
    clear hb3 hB2 t0 t1 t2 t3 t4 t5 t6 t7 t8 t9 c5 c6
    cases k with
    | false =>
      go_wp2
      go_ret
      exact ⟨ret_int HR3.out.symm, hB3⟩
    | true =>
      go_wp2
      go_ret
      exact ⟨ret_int HR3.out.symm, hB3⟩
theorem results_k2 {fn : Func} {t u : Tmp} (h : fn.results = #[.tmp t, .tmp u]) (tmps : Array Value) (P : Program) (w : World) :
    (results fn tmps).run P w = .ok (.tuple #[tmps.getD t undef, tmps.getD u undef]) w := by
  simp [results, h]
theorem cfg_rr {cf : Cfg} (h : cfgOk cf = true) : 0 ≤ cf.rise ∧ cf.rise ≤ 100 ∧ 1 ≤ cf.run ∧ cf.run ≤ 100 := by
  unfold cfgOk at h
  simp only [decide_eq_true_eq] at h
  omega
theorem nrm_bound {t : Tr} (h : crnOk 32 32 t = true) : (-300000 ≤ nxV t ∧ nxV t ≤ 300000) ∧ (-3000 ≤ nyV t ∧ nyV t ≤ 3000) ∧ (-300000 ≤ nzV t ∧ nzV t ≤ 300000) := by
  rw [crn_iff] at h
  have b1 := mulB (x := t.b.z - t.a.z) (y := t.c.x - t.a.x) (K := 32) (L := 32) (by omega) (by omega)
  have b2 := mulB (x := t.b.x - t.a.x) (y := t.c.z - t.a.z) (K := 32) (L := 32) (by omega) (by omega)
  have b3 := mulB (x := t.b.y - t.a.y) (y := t.c.z - t.a.z) (K := 4096) (L := 32) (by omega) (by omega)
  have b4 := mulB (x := t.b.z - t.a.z) (y := t.c.y - t.a.y) (K := 32) (L := 4096) (by omega) (by omega)
  have b5 := mulB (x := t.b.x - t.a.x) (y := t.c.y - t.a.y) (K := 32) (L := 4096) (by omega) (by omega)
  have b6 := mulB (x := t.b.y - t.a.y) (y := t.c.x - t.a.x) (K := 4096) (L := 32) (by omega) (by omega)
  unfold nxV nyV nzV
  omega
set_option maxRecDepth 100000 in
set_option maxHeartbeats 4000000 in
theorem walk_any (cf : Cfg) (t : Tr) (w : World) (hc : cfgOk cf = true) (hm : trMay cf.w cf.d t = true) :
    Calls Tryz.prog 47 #[cfgV cf, trA t] w fun e w' => e = .returned (.tuple #[.bool (walkV cf.rise cf.run t), .int .i64 0]) ∧ Below w.heap.size w w' := by
  have CF := Lib.hid (fun W => cfgcheck_any cf W)
  have NO := Lib.hid (fun W => normal_any t W)
  have h0 : cfgE cf = 0 := by unfold cfgE; rw [if_pos hc]
  rw [h0] at CF
  clear h0
  have hn := may_nrm hc hm
  rw [nrm_ok hn] at NO
  rw [Bool.and_eq_true] at hn
  obtain ⟨⟨x1, x2⟩, ⟨y1, y2⟩, z1, z2⟩ := nrm_bound hn.1
  obtain ⟨r1, r2, r3, r4⟩ := cfg_rr hc
  have hC := halloc (World.alloc_heap_new w (cfgO cf)) (trO t.id t.a t.b t.c)
  have hT := World.alloc_heap_new (w.alloc (cfgO cf)) (trO t.id t.a t.b t.c)
  have hB : Below w.heap.size w ((w.alloc (cfgO cf)).alloc (trO t.id t.a t.b t.c)) := ((Below.refl _ _).alloc (Nat.le_refl _) _).alloc (by simp) _
  simp only [World.size_alloc] at hT
  obtain ⟨r, hr⟩ : ∃ r, r = walkV cf.rise cf.run t := ⟨_, rfl⟩
  rw [← hr]
  unfold walkV at hr
  have HR := Lib.hid hr
  clear hr hc hm hn
  generalize nxV t = nx at NO x1 x2 HR
  generalize nyV t = ny at NO y1 y2 HR
  generalize nzV t = nz at NO z1 z2 HR
  obtain ⟨i, ⟨ax, ay, az⟩, ⟨bx, by_, bz⟩, ⟨cx, cy, cz⟩⟩ := t
  obtain ⟨clear_, climb, height, rise, run, cw, cd⟩ := cf
  dsimp only [trO, trA, cfgO, cfgV] at CF NO hB hT hC HR r1 r2 r3 r4 ⊢
  have m1 := mulB (x := nx) (y := nx) (K := 300000) (L := 300000) ⟨x1, x2⟩ ⟨x1, x2⟩
  have m2 := mulB (x := nz) (y := nz) (K := 300000) (L := 300000) ⟨z1, z2⟩ ⟨z1, z2⟩
  have m3 := mulB (x := nx * nx + nz * nz) (y := run) (K := 180000000000) (L := 100) (by omega) (by omega)
  have m4 := mulB (x := (nx * nx + nz * nz) * run) (y := run) (K := 18000000000000) (L := 100) (by omega) (by omega)
  have m5 := mulB (x := ny) (y := ny) (K := 3000) (L := 3000) ⟨y1, y2⟩ ⟨y1, y2⟩
  have m6 := mulB (x := ny * ny) (y := rise) (K := 9000000) (L := 100) (by omega) (by omega)
  have m7 := mulB (x := ny * ny * rise) (y := rise) (K := 900000000) (L := 100) (by omega) (by omega)
  have w1 : IntKind.i64.wrap (nx * nx) = nx * nx := by rw [IntKind.wrap_i64]; omega
  have w2 : IntKind.i64.wrap (nz * nz) = nz * nz := by rw [IntKind.wrap_i64]; omega
  have w3 : IntKind.i64.wrap (nx * nx + nz * nz) = nx * nx + nz * nz := by rw [IntKind.wrap_i64]; omega
  have w4 : IntKind.i64.wrap ((nx * nx + nz * nz) * run) = (nx * nx + nz * nz) * run := by rw [IntKind.wrap_i64]; omega
  have w5 : IntKind.i64.wrap ((nx * nx + nz * nz) * run * run) = (nx * nx + nz * nz) * run * run := by rw [IntKind.wrap_i64]; omega
  have w6 : IntKind.i64.wrap (ny * ny) = ny * ny := by rw [IntKind.wrap_i64]; omega
  have w7 : IntKind.i64.wrap (ny * ny * rise) = ny * ny * rise := by rw [IntKind.wrap_i64]; omega
  have w8 : IntKind.i64.wrap (ny * ny * rise * rise) = ny * ny * rise * rise := by rw [IntKind.wrap_i64]; omega
  clear m1 m2 m3 m4 m5 m6 m7 x1 x2 y1 y2 z1 z2 r1 r2 r3 r4
  go_enter Tryz.func47, Tryz.ntmps47
  go_wp2_with fail
  refine (CF.out _).mono ?_
  rintro e v1 ⟨rfl, hb1⟩
  have hT1 := hkeep hb1 hT
  have hC1 := hkeep hb1 hC
  have hB1 := hB.trans (hb1.mono hB.size)
  clear hb1 hB hT hC
  have t0 := hcell (k := 0) (v := .int .i64 i) hT1 rfl
  have t1 := hcell (k := 1) (v := .int .i64 ax) hT1 rfl
  have t2 := hcell (k := 2) (v := .int .i64 ay) hT1 rfl
  have t3 := hcell (k := 3) (v := .int .i64 az) hT1 rfl
  have t4 := hcell (k := 4) (v := .int .i64 bx) hT1 rfl
  have t5 := hcell (k := 5) (v := .int .i64 by_) hT1 rfl
  have t6 := hcell (k := 6) (v := .int .i64 bz) hT1 rfl
  have t7 := hcell (k := 7) (v := .int .i64 cx) hT1 rfl
  have t8 := hcell (k := 8) (v := .int .i64 cy) hT1 rfl
  have t9 := hcell (k := 9) (v := .int .i64 cz) hT1 rfl
  go_wp2_with fail
  refine (NO.out _).mono ?_
  rintro e v2 ⟨rfl, hb2⟩
  have hC2 := hkeep hb2 hC1
  have hB2 := hB1.trans (hb2.mono hB1.size)
  clear t0 t1 t2 t3 t4 t5 t6 t7 t8 t9 hb2 hB1 hT1 hC1
  have c3 := hcell (k := 3) (v := .int .i64 rise) hC2 rfl
  have c4 := hcell (k := 4) (v := .int .i64 run) hC2 rfl
  clear hC2
  go_wp2
  ((try simp only [Exit.inBlock, Exit.then]); refine bodyPost_ret (results_k2 rfl _ _ _) rfl ?_)
  exact ⟨by rw [HR.out]; rfl, hB2⟩
end Go.Proofs.YtjiklfffcnfdjaaGreat
