/- Walk: does the triangle hold a point? -/
import Derived.Test.YtjiklfffcnfdjaaGreatGn
import Derived.Deep.DeepCutAuto
import Derived.Deep.CutRange
namespace Go.Proofs.YtjiklfffcnfdjaaGreat
open Go.RowKit
attribute [local go_sem] Instr.index

def edgeK (t : T3) (p : Sp) : Nat → Int
  | 0 => edgeS t.a t.b p
  | 1 => edgeS t.b t.c p
  | _ => edgeS t.c t.a p
theorem holds_of {t : T3} {p : Sp} (h : ∀ j, j < 3 → 0 ≤ edgeK t p j) : holdsT t p = true := by
  have h0 := h 0 (by omega)
  have h1 := h 1 (by omega)
  have h2 := h 2 (by omega)
  simp only [edgeK] at h0 h1 h2
  simp [holdsT, h0, h1, h2]
theorem holds_not {t : T3} {p : Sp} {j : Nat} (hj : j < 3) (h : edgeK t p j < 0) : holdsT t p = false := by
  have : j = 0 ∨ j = 1 ∨ j = 2 := by omega
  rcases this with rfl | rfl | rfl <;> simp only [edgeK] at h <;> simp [holdsT] <;> omega
def tOk (t : T3) : Prop := vOk t.a = true ∧ vOk t.b = true ∧ vOk t.c = true ∧ 0 < t.s ∧ t.s ≤ 2048
theorem edge_any (a b : V3) (p : Sp) (w : World) (ha : vOk a = true) (hb : vOk b = true) (hp : SpSmall p) :
    Calls Tryz.prog 115 #[.int .i64 (b.x - a.x), .int .i64 (b.z - a.z), .int .i64 (p.x - a.x * p.d), .int .i64 (p.z - a.z * p.d)] w fun e w' => e = .returned (.int .i64 (edgeS a b p)) ∧ w' = w := by
  rw [vOk_iff] at ha hb
  obtain ⟨p1, p2, p3, p4, p5, p6⟩ := hp
  have m1 := mulB (x := a.x) (y := p.d) (K := 40) (L := 40) (by omega) (by omega)
  have m2 := mulB (x := a.z) (y := p.d) (K := 40) (L := 40) (by omega) (by omega)
  exact ccross_any _ _ _ _ w (by unfold Sm30; omega) (by unfold Sm30; omega) (by unfold Sm30; omega) (by unfold Sm30; omega)

set_option maxRecDepth 100000 in
set_option maxHeartbeats 16000000 in
theorem holdst_any (t : T3) (p : Sp) (T : Nat) (w : World) (hT : w.heap[T]? = some (.cells (t3C t) 124 (0, 0))) (ht : tOk t) (hp : SpSmall p) :
    Calls Tryz.prog 89 #[.pointer (some ⟨T, 0, none⟩), spA p] w fun e w' => e = .returned (.bool (holdsT t p)) ∧ Below w.heap.size w w' := by
  obtain ⟨h1, h2, h3, _, _⟩ := ht
  have E0 : Hid (∀ W, Calls Tryz.prog 115 #[.int .i64 (t.b.x - t.a.x), .int .i64 (t.b.z - t.a.z), .int .i64 (p.x - t.a.x * p.d), .int .i64 (p.z - t.a.z * p.d)] W fun e w' => e = .returned (.int .i64 (edgeK t p 0)) ∧ w' = W) := fun W => edge_any t.a t.b p W h1 h2 hp
  have E1 : Hid (∀ W, Calls Tryz.prog 115 #[.int .i64 (t.c.x - t.b.x), .int .i64 (t.c.z - t.b.z), .int .i64 (p.x - t.b.x * p.d), .int .i64 (p.z - t.b.z * p.d)] W fun e w' => e = .returned (.int .i64 (edgeK t p 1)) ∧ w' = W) := fun W => edge_any t.b t.c p W h2 h3 hp
  have E2 : Hid (∀ W, Calls Tryz.prog 115 #[.int .i64 (t.a.x - t.c.x), .int .i64 (t.a.z - t.c.z), .int .i64 (p.x - t.c.x * p.d), .int .i64 (p.z - t.c.z * p.d)] W fun e w' => e = .returned (.int .i64 (edgeK t p 2)) ∧ w' = W) := fun W => edge_any t.c t.a p W h3 h1 hp
  have HY := Lib.hid (holds_of (t := t) (p := p))
  have HN := Lib.hid (fun j hj h => holds_not (t := t) (p := p) (j := j) hj h)
  generalize edgeK t p = ed at E0 E1 E2 HY HN
  generalize holdsT t p = r at HY HN ⊢
  rw [vOk_iff] at h1 h2 h3
  obtain ⟨p1, p2, p3, p4, p5, p6⟩ := hp
  have m1 := mulB (x := t.a.x) (y := p.d) (K := 40) (L := 40) (by omega) (by omega)
  have m2 := mulB (x := t.a.z) (y := p.d) (K := 40) (L := 40) (by omega) (by omega)
  have m3 := mulB (x := t.b.x) (y := p.d) (K := 40) (L := 40) (by omega) (by omega)
  have m4 := mulB (x := t.b.z) (y := p.d) (K := 40) (L := 40) (by omega) (by omega)
  have m5 := mulB (x := t.c.x) (y := p.d) (K := 40) (L := 40) (by omega) (by omega)
  have m6 := mulB (x := t.c.z) (y := p.d) (K := 40) (L := 40) (by omega) (by omega)
  obtain ⟨⟨ax, ay, az⟩, ⟨bx, by_, bz⟩, ⟨cx, cy, cz⟩, s⟩ := t
  obtain ⟨px, pz, pd⟩ := p
  simp only at h1 h2 h3 m1 m2 m3 m4 m5 m6 p1 p2 p3 p4 p5 p6 E0 E1 E2
  have hB : Below w.heap.size w (w.alloc (.cells #[.int .i64 px, .int .i64 pz, .int .i64 pd] 128)) := (Below.refl _ _).alloc (Nat.le_refl _) _
  have hP := World.alloc_heap_new w (.cells #[.int .i64 px, .int .i64 pz, .int .i64 pd] 128)
  have hT1 := halloc hT (.cells #[.int .i64 px, .int .i64 pz, .int .i64 pd] 128)
  have hTw := hblt hT
  go_enter Tryz.func89, Tryz.ntmps89
  go_wp2
  generalize hW : w.alloc (.cells #[.int .i64 px, .int .i64 pz, .int .i64 pd] 128) = W at hB hP hT1
  go_loopw [8] (fun i wr => ∃ k : Nat, i = .int .i64 k ∧ k ≤ 3 ∧ Hid (∀ j, j < k → 0 ≤ ed j) ∧ Below W.heap.size W wr) (fun i _ => 3 - (intOf i).toNat)
  case atStart => exact ⟨0, rfl, by omega, fun j hj => absurd hj (Nat.not_lt_zero j), Below.refl _ _⟩
  case round =>
    obtain ⟨k, rfl, hk, HE, hb⟩ := hrel
    have hTr := hkeep hb hT1
    have hPr := hkeep hb hP
    have hBr := hB.trans (hb.mono hB.size)
    have c0 := hcell (k := 0) (v := .int .i64 ax) hTr rfl
    have c1 := hcell (k := 1) (v := .int .i64 ay) hTr rfl
    have c2 := hcell (k := 2) (v := .int .i64 az) hTr rfl
    have c3 := hcell (k := 3) (v := .int .i64 bx) hTr rfl
    have c4 := hcell (k := 4) (v := .int .i64 by_) hTr rfl
    have c5 := hcell (k := 5) (v := .int .i64 bz) hTr rfl
    have c6 := hcell (k := 6) (v := .int .i64 cx) hTr rfl
    have c7 := hcell (k := 7) (v := .int .i64 cy) hTr rfl
    have c8 := hcell (k := 8) (v := .int .i64 cz) hTr rfl
    have q0 := hcell (k := 0) (v := .int .i64 px) hPr rfl
    have q1 := hcell (k := 1) (v := .int .i64 pz) hPr rfl
    have q2 := hcell (k := 2) (v := .int .i64 pd) hPr rfl
    have s1 := hblt hTr
    have s2 := hblt hPr
    have n1 := World.new_ne wr _ c0
    have n2 := World.new_ne wr _ q0
    by_cases hk3 : k = 3
    · subst hk3
      have HR : Hid (r = true) := HY.out HE.out
      clear c0 c1 c2 c3 c4 c5 c6 c7 c8 q0 q1 q2 hTr hPr
      go_wp2
      go_ret
      exact ⟨ret_bool HR.out.symm, hBr⟩
    have hkI : (k : Int) < 3 := by omega
    have hC : ∃ (k2 : Nat) (s0 s1 s2 s3 s4 s5 : Int), (k2 : Int) < 3 ∧ ((k : Int) + 1).tmod 3 = (k2 : Int) ∧ wr.cell? ⟨T, k * 3, none⟩ = some (.int .i64 s0) ∧ wr.cell? ⟨T, k * 3 + 1, none⟩ = some (.int .i64 s1) ∧ wr.cell? ⟨T, k * 3 + 2, none⟩ = some (.int .i64 s2) ∧ wr.cell? ⟨T, k2 * 3, none⟩ = some (.int .i64 s3) ∧ wr.cell? ⟨T, k2 * 3 + 1, none⟩ = some (.int .i64 s4) ∧ wr.cell? ⟨T, k2 * 3 + 2, none⟩ = some (.int .i64 s5) ∧ (0 ≤ s0 ∧ s0 ≤ 32) ∧ (0 ≤ s2 ∧ s2 ≤ 32) ∧ (0 ≤ s3 ∧ s3 ≤ 32) ∧ (0 ≤ s5 ∧ s5 ≤ 32) ∧ Hid (∀ W, Calls Tryz.prog 115 #[.int .i64 (s3 - s0), .int .i64 (s5 - s2), .int .i64 (px - s0 * pd), .int .i64 (pz - s2 * pd)] W fun e w' => e = .returned (.int .i64 (ed k)) ∧ w' = W) := by
      have hk' : k = 0 ∨ k = 1 ∨ k = 2 := by omega
      rcases hk' with rfl | rfl | rfl
      · exact ⟨1, ax, ay, az, bx, by_, bz, by decide, by decide, c0, c1, c2, c3, c4, c5, by omega, by omega, by omega, by omega, E0⟩
      · exact ⟨2, bx, by_, bz, cx, cy, cz, by decide, by decide, c3, c4, c5, c6, c7, c8, by omega, by omega, by omega, by omega, E1⟩
      · exact ⟨0, cx, cy, cz, ax, ay, az, by decide, by decide, c6, c7, c8, c0, c1, c2, by omega, by omega, by omega, by omega, E2⟩
    clear c0 c1 c2 c3 c4 c5 c6 c7 c8 n1 m1 m2 m3 m4 m5 m6 h1 h2 h3 hTr q0 q1 q2 n2
    obtain ⟨k2, s0, s1, s2, s3, s4, s5, hk2, hm, d0, d1, d2, d3, d4, d5, b0, b2, b3, b5, EK⟩ := hC
    have n1 := World.new_ne wr _ d0
    have hw1 : IntKind.i64.wrap ((k : Int) + 1) = (k : Int) + 1 := by rw [IntKind.wrap_i64]; omega
    have hk0 : (0 : Int) ≤ (k : Int) := by omega
    have hk1 : (0 : Int) ≤ (k2 : Int) := by omega
    have m1 := mulB (x := s0) (y := pd) (K := 40) (L := 40) (by omega) (by omega)
    have m2 := mulB (x := s2) (y := pd) (K := 40) (L := 40) (by omega) (by omega)
    have HX : ∀ W1, Below wr.heap.size wr W1 → (W1.cell? ⟨w.heap.size, 0, none⟩ = some (.int .i64 px) ∧ W1.cell? ⟨w.heap.size, 1, none⟩ = some (.int .i64 pz) ∧ W1.cell? ⟨w.heap.size, 2, none⟩ = some (.int .i64 pd)) := fun W1 h => ⟨hcell (hkeep h hPr) rfl, hcell (hkeep h hPr) rfl, hcell (hkeep h hPr) rfl⟩
    have HX' := Lib.hid HX
    clear HX hPr
    go_wp2_with fail
    go_region_held3 (fun WW => WW.cell? ⟨T, k * 3, none⟩ = some (.int .i64 s0) ∧ WW.cell? ⟨T, k * 3 + 1, none⟩ = some (.int .i64 s1) ∧ WW.cell? ⟨T, k * 3 + 2, none⟩ = some (.int .i64 s2) ∧ WW.cell? ⟨T, k2 * 3, none⟩ = some (.int .i64 s3) ∧ WW.cell? ⟨T, k2 * 3 + 1, none⟩ = some (.int .i64 s4) ∧ WW.cell? ⟨T, k2 * 3 + 2, none⟩ = some (.int .i64 s5)) (first | go_keep | fail) (fail)
    all_goals
      rename_i hH
      clear hH
      have hD1 : Below wr.heap.size wr ((wr.alloc (.cells #[.int .i64 s0, .int .i64 s1, .int .i64 s2] 74)).alloc (.cells #[.int .i64 s3, .int .i64 s4, .int .i64 s5] 74)).drew := ((((Below.refl wr.heap.size wr).alloc (Nat.le_refl _) (.cells #[.int .i64 s0, .int .i64 s1, .int .i64 s2] 74)).alloc (by simp) (.cells #[.int .i64 s3, .int .i64 s4, .int .i64 s5] 74))).drew
      have hD2 : Below wr.heap.size wr ((wr.alloc (.cells #[.int .i64 s3, .int .i64 s4, .int .i64 s5] 74)).alloc (.cells #[.int .i64 s0, .int .i64 s1, .int .i64 s2] 74)).drew := ((((Below.refl wr.heap.size wr).alloc (Nat.le_refl _) (.cells #[.int .i64 s3, .int .i64 s4, .int .i64 s5] 74)).alloc (by simp) (.cells #[.int .i64 s0, .int .i64 s1, .int .i64 s2] 74))).drew
      obtain ⟨x0, x1, x2⟩ := HX'.out _ hD1
      obtain ⟨y0, y1, y2⟩ := HX'.out _ hD2
      have hb1 := Lib.hid (hb.trans (hD1.mono hb.size))
      have hb2 := Lib.hid (hb.trans (hD2.mono hb.size))
      clear hD1 hD2 d0 d1 d2 d3 d4 d5 n1
      go_wp2_with fail
      refine (EK.out _).mono ?_
      rintro e w5 ⟨rfl, rfl⟩
      by_cases hneg : ed k < 0
      · have HR : Hid (r = false) := HN.out k (by omega) hneg
        go_wp2
        go_ret
        first
          | exact ⟨ret_bool HR.out.symm, hB.trans (hb1.out.mono hB.size)⟩
          | exact ⟨ret_bool HR.out.symm, hB.trans (hb2.out.mono hB.size)⟩
      · have HE2 : Hid (∀ j, j < k + 1 → 0 ≤ ed j) := fun j hj => by
          by_cases hjk : j = k
          · subst hjk; omega
          · exact HE.out j (by omega)
        go_wp2
        go_roundw
        case rel => first | exact ⟨k + 1, by go_num, by omega, HE2, hb1.out⟩ | exact ⟨k + 1, by go_num, by omega, HE2, hb2.out⟩
        case measure => simp [intOf]; omega
end Go.Proofs.YtjiklfffcnfdjaaGreat

namespace Go.Proofs.YtjiklfffcnfdjaaGreat
open Go.RowKit
attribute [local go_sem] Instr.index

section
variable {w : World} {b : Nat} {t : TypeId}
theorem box4_set {u0 u1 u2 u3 : Value} (h : w.heap[b]? = some (.cells #[u0, u1, u2, u3] t (0, 0))) (v0 v1 v2 v3 : Value) : ((((w.setCell ⟨b, 0, none⟩ v0).setCell ⟨b, 1, none⟩ v1).setCell ⟨b, 2, none⟩ v2).setCell ⟨b, 3, none⟩ v3).heap[b]? = some (.cells #[v0, v1, v2, v3] t (0, 0)) :=
  heap_setCell_same _ b 3 _ _ _ (heap_setCell_same _ b 2 _ _ _ (heap_setCell_same _ b 1 _ _ _ (heap_setCell_same _ b 0 _ _ _ h)))
theorem box4_grown (v0 v1 v2 v3 : Value) : w.grownBy ((((w.setCell ⟨b, 0, none⟩ v0).setCell ⟨b, 1, none⟩ v1).setCell ⟨b, 2, none⟩ v2).setCell ⟨b, 3, none⟩ v3) (some b) :=
  (((grown_set w b 0 v0).trans (grown_set _ b 1 v1)).trans (grown_set _ b 2 v2)).trans (grown_set _ b 3 v3)
end
theorem gcd_end {G : Int} {K : Nat} (h : Int.gcd G 0 = K) : max G (-G) = (K : Int) := by
  rw [Int.gcd_zero_right] at h
  omega
theorem gcd_rem {G N : Int} (h : N ≠ 0) : Int.gcd N (G.tmod N) = Int.gcd G N := by
  unfold Int.gcd
  rw [Int.natAbs_tmod]
  exact gcd_step (by omega)
theorem rem_lt {G N : Int} (h : N ≠ 0) : (G.tmod N).natAbs < N.natAbs := by
  rw [Int.natAbs_tmod]
  exact Nat.mod_lt _ (by omega)
theorem rem_bound {G N K : Int} (h : N ≠ 0) (h1 : -K ≤ N) (h2 : N ≤ K) : -K ≤ G.tmod N ∧ G.tmod N ≤ K := by
  have := rem_lt (G := G) h
  omega
theorem gcd_bound {a b K : Int} (ha0 : 0 < a) (_ : a ≤ K) (_ : -K ≤ b) (_ : b ≤ K) : 0 < ((Int.gcd a b : Nat) : Int) ∧ ((Int.gcd a b : Nat) : Int) ≤ a := by
  have h0 : 0 < Int.gcd a b := Int.gcd_pos_of_ne_zero_left _ (by omega)
  have h1 : ((Int.gcd a b : Nat) : Int) ∣ a := Int.gcd_dvd_left ..
  have h2 := Int.le_of_dvd ha0 h1
  omega
theorem tdiv_bound {x K M : Int} (_ : 0 < K) (h1 : -M ≤ x) (h2 : x ≤ M) : -M ≤ x.tdiv K ∧ x.tdiv K ≤ M := by
  have hle : (x.tdiv K).natAbs ≤ x.natAbs := by rw [Int.natAbs_tdiv]; exact Nat.div_le_self ..
  generalize x.tdiv K = q at hle ⊢
  omega

set_option maxRecDepth 100000 in
set_option maxHeartbeats 16000000 in
theorem lift_any (t : T3) (p : Sp) (T : Nat) (w : World) (hT : w.heap[T]? = some (.cells (t3C t) 124 (0, 0))) (ht : tOk t) (hp : SpSmall p) (hpd : 0 < p.d) :
    Calls Tryz.prog 96 #[.pointer (some ⟨T, 0, none⟩), spA p] w fun e w' => e = .returned (crA (liftT t p)) ∧ Below w.heap.size w w' := by
  obtain ⟨h1, h2, h3, hs1, hs2⟩ := ht
  rw [vOk_iff] at h1 h2 h3
  have NX : Hid (∀ W, Calls Tryz.prog 115 #[.int .i64 (t.b.y - t.a.y), .int .i64 (t.c.y - t.a.y), .int .i64 (t.b.z - t.a.z), .int .i64 (t.c.z - t.a.z)] W fun e w' => e = .returned (.int .i64 (nxT t)) ∧ w' = W) := fun W => ccross_any _ _ _ _ W (by unfold Sm30; omega) (by unfold Sm30; omega) (by unfold Sm30; omega) (by unfold Sm30; omega)
  have NZ : Hid (∀ W, Calls Tryz.prog 115 #[.int .i64 (t.b.x - t.a.x), .int .i64 (t.c.x - t.a.x), .int .i64 (t.b.y - t.a.y), .int .i64 (t.c.y - t.a.y)] W fun e w' => e = .returned (.int .i64 (nzT t)) ∧ w' = W) := fun W => ccross_any _ _ _ _ W (by unfold Sm30; omega) (by unfold Sm30; omega) (by unfold Sm30; omega) (by unfold Sm30; omega)
  have b1 : -262144 ≤ nxT t ∧ nxT t ≤ 262144 := by
    have m1 := mulB (x := t.b.y - t.a.y) (y := t.c.z - t.a.z) (K := 4096) (L := 32) (by omega) (by omega)
    have m2 := mulB (x := t.c.y - t.a.y) (y := t.b.z - t.a.z) (K := 4096) (L := 32) (by omega) (by omega)
    unfold nxT crossI
    omega
  have b2 : -262144 ≤ nzT t ∧ nzT t ≤ 262144 := by
    have m1 := mulB (x := t.b.x - t.a.x) (y := t.c.y - t.a.y) (K := 32) (L := 4096) (by omega) (by omega)
    have m2 := mulB (x := t.c.x - t.a.x) (y := t.b.y - t.a.y) (K := 32) (L := 4096) (by omega) (by omega)
    unfold nzT crossI
    omega
  have HR : Hid (rawT t p = ⟨p.x * t.s, p.z * t.s, t.a.y * t.s * p.d + nxT t * (p.x - t.a.x * p.d) + nzT t * (p.z - t.a.z * p.d), t.s * p.d⟩) := rfl
  have HL : Hid (liftT t p = lowC (rawT t p)) := rfl
  generalize nxT t = nx at NX b1 HR
  generalize nzT t = nz at NZ b2 HR
  generalize liftT t p = lf at HL ⊢
  generalize rawT t p = rw' at HL HR
  obtain ⟨p1, p2, p3, p4, p5, p6⟩ := hp
  obtain ⟨⟨ax, ay, az⟩, ⟨bx, by_, bz⟩, ⟨cx, cy, cz⟩, s⟩ := t
  obtain ⟨px, pz, pd⟩ := p
  simp only at h1 h2 h3 hs1 hs2 hpd p1 p2 p3 p4 p5 p6 NX NZ HR
  have hB : Below w.heap.size w ((w.alloc (.cells #[.int .i64 px, .int .i64 pz, .int .i64 pd] 128)).alloc (.cells #[.int .i64 0, .int .i64 0, .int .i64 0, .int .i64 0] 105)) := ((Below.refl _ _).alloc (Nat.le_refl _) _).alloc (by simp) _
  have hP := halloc (World.alloc_heap_new w (.cells #[.int .i64 px, .int .i64 pz, .int .i64 pd] 128)) (.cells #[.int .i64 0, .int .i64 0, .int .i64 0, .int .i64 0] 105)
  have hQ := World.alloc_heap_new (w.alloc (.cells #[.int .i64 px, .int .i64 pz, .int .i64 pd] 128)) (.cells #[.int .i64 0, .int .i64 0, .int .i64 0, .int .i64 0] 105)
  have hT1 := halloc (halloc hT (.cells #[.int .i64 px, .int .i64 pz, .int .i64 pd] 128)) (.cells #[.int .i64 0, .int .i64 0, .int .i64 0, .int .i64 0] 105)
  simp only [World.size_alloc] at hQ
  have hTw := hblt hT
  have c0 := hcell (k := 0) (v := .int .i64 ax) hT1 rfl
  have c1 := hcell (k := 1) (v := .int .i64 ay) hT1 rfl
  have c2 := hcell (k := 2) (v := .int .i64 az) hT1 rfl
  have c3 := hcell (k := 3) (v := .int .i64 bx) hT1 rfl
  have c4 := hcell (k := 4) (v := .int .i64 by_) hT1 rfl
  have c5 := hcell (k := 5) (v := .int .i64 bz) hT1 rfl
  have c6 := hcell (k := 6) (v := .int .i64 cx) hT1 rfl
  have c7 := hcell (k := 7) (v := .int .i64 cy) hT1 rfl
  have c8 := hcell (k := 8) (v := .int .i64 cz) hT1 rfl
  go_enter Tryz.func96, Tryz.ntmps96
  go_upto_region 1 with fail
  generalize ((w.alloc (.cells #[.int .i64 px, .int .i64 pz, .int .i64 pd] 128)).alloc (.cells #[.int .i64 0, .int .i64 0, .int .i64 0, .int .i64 0] 105)) = W at hB hP hQ hT1 c0 c1 c2 c3 c4 c5 c6 c7 c8 ⊢
  have n1 := World.new_ne W _ c0
  have s1 := hblt hT1
  go_cut [5, 6] from 5 to 23 (fun s5 s6 wx => ∃ A B : Nat, s5 = .pointer (some ⟨A, 0, none⟩) ∧ s6 = .pointer (some ⟨B, 0, none⟩) ∧ wx.heap[A]? = some (.cells #[.int .i64 bx, .int .i64 by_, .int .i64 bz] 74 (0, 0)) ∧ wx.heap[B]? = some (.cells #[.int .i64 cx, .int .i64 cy, .int .i64 cz] 74 (0, 0)) ∧ Below W.heap.size W wx)
  case first =>
    as_aux_lemma =>
      have HAB : Hid (∀ X Y : Obj, X.isCells = true → ((W.alloc X).alloc Y).drew.heap[W.heap.size]? = (W.alloc X).heap[W.heap.size]? ∧ ((W.alloc X).alloc Y).drew.heap[W.heap.size + 1]? = ((W.alloc X).alloc Y).heap[(W.alloc X).heap.size]? ∧ Below W.heap.size W ((W.alloc X).alloc Y).drew) := fun X Y _ => ⟨(Below.heap_alloc (W.alloc X) Y W.heap.size (by simp)), by rw [World.size_alloc]; rfl, (((Below.refl _ _).alloc (Nat.le_refl _) _).alloc (by simp) _).drew⟩
      go_wp2_with fail
      go_region_held3 (fun WW => WW.cell? ⟨T, 3, none⟩ = some (.int .i64 bx) ∧ WW.cell? ⟨T, 4, none⟩ = some (.int .i64 by_) ∧ WW.cell? ⟨T, 5, none⟩ = some (.int .i64 bz) ∧ WW.cell? ⟨T, 6, none⟩ = some (.int .i64 cx) ∧ WW.cell? ⟨T, 7, none⟩ = some (.int .i64 cy) ∧ WW.cell? ⟨T, 8, none⟩ = some (.int .i64 cz)) (first | go_keep | fail) (fail)
      all_goals
        rename_i hH
        clear hH
        go_wp2
        go_meet
        refine ⟨_, _, rfl, rfl, ?_⟩
        first
          | exact ⟨(HAB.out _ _ rfl).1.trans (World.alloc_heap_new W _), (HAB.out _ _ rfl).2.1.trans (World.alloc_heap_new (W.alloc _) _), (HAB.out _ _ rfl).2.2⟩
          | exact ⟨(HAB.out _ _ rfl).2.1.trans (World.alloc_heap_new (W.alloc _) _), (HAB.out _ _ rfl).1.trans (World.alloc_heap_new W _), (HAB.out _ _ rfl).2.2⟩
  case rest =>
  obtain ⟨A, B, rfl, rfl, hVb, hVc, hbW⟩ := hcut
  obtain ⟨W2, rfl⟩ : ∃ W2 : World, W2 = wc := ⟨_, rfl⟩
  have hP2 := hkeep hbW hP
  have hQ2 := hkeep hbW hQ
  have hT2 := hkeep hbW hT1
  have hB2 := hB.trans (hbW.mono hB.size)
  clear hB hP hQ hT1 hbW c0 c1 c2 c3 c4 c5 c6 c7 c8 n1 s1
  have c0 := hcell (k := 0) (v := .int .i64 ax) hT2 rfl
  have c1 := hcell (k := 1) (v := .int .i64 ay) hT2 rfl
  have c2 := hcell (k := 2) (v := .int .i64 az) hT2 rfl
  have d0 := hcell (k := 0) (v := .int .i64 bx) hVb rfl
  have d1 := hcell (k := 1) (v := .int .i64 by_) hVb rfl
  have d2 := hcell (k := 2) (v := .int .i64 bz) hVb rfl
  have e0 := hcell (k := 0) (v := .int .i64 cx) hVc rfl
  have e1 := hcell (k := 1) (v := .int .i64 cy) hVc rfl
  have e2 := hcell (k := 2) (v := .int .i64 cz) hVc rfl
  have sb := hblt hVb
  have sc := hblt hVc
  go_wp2_with fail
  refine (NX.out _).mono ?_
  rintro e w5 ⟨rfl, rfl⟩
  go_wp2_with fail
  refine (NZ.out _).mono ?_
  rintro e w6 ⟨rfl, rfl⟩
  go_upto_region 5 with fail
  have hO3 := World.alloc_heap_new W2 (.cells #[.int .i64 ax, .int .i64 ay, .int .i64 az] 74)
  have hP3 := halloc hP2 (.cells #[.int .i64 ax, .int .i64 ay, .int .i64 az] 74)
  have hQ3 := halloc hQ2 (.cells #[.int .i64 ax, .int .i64 ay, .int .i64 az] 74)
  have hT3 := halloc hT2 (.cells #[.int .i64 ax, .int .i64 ay, .int .i64 az] 74)
  have hB3 := hB2.alloc hB2.size (.cells #[.int .i64 ax, .int .i64 ay, .int .i64 az] 74)
  generalize (W2.alloc (.cells #[.int .i64 ax, .int .i64 ay, .int .i64 az] 74)) = W3 at hO3 hP3 hQ3 hT3 hB3 ⊢
  generalize W2.heap.size = O at hO3 ⊢
  clear hP2 hQ2 hT2 hB2 c0 c1 c2 d0 d1 d2 e0 e1 e2 sb sc hVb hVc
  go_cut [10] from 71 to 124 (fun s10 wx => ∃ C : Nat, s10 = .pointer (some ⟨C, 0, none⟩) ∧ wx.heap[C]? = some (.cells #[.int .i64 rw'.x, .int .i64 rw'.z, .int .i64 rw'.y, .int .i64 rw'.d] 105 (0, 0)) ∧ Below W3.heap.size W3 wx)
  case first =>
    as_aux_lemma =>
      have c9 := hcell (k := 9) (v := .int .i64 s) hT3 rfl
      have q0 := hcell (k := 0) (v := .int .i64 px) hP3 rfl
      have q1 := hcell (k := 1) (v := .int .i64 pz) hP3 rfl
      have q2 := hcell (k := 2) (v := .int .i64 pd) hP3 rfl
      have o0 := hcell (k := 0) (v := .int .i64 ax) hO3 rfl
      have o1 := hcell (k := 1) (v := .int .i64 ay) hO3 rfl
      have o2 := hcell (k := 2) (v := .int .i64 az) hO3 rfl
      have n1 := World.new_ne W3 _ c9
      have n2 := World.new_ne W3 _ q0
      have n3 := World.new_ne W3 _ o0
      go_region_held3 (fun WW => WW.cell? ⟨T, 9, none⟩ = some (.int .i64 s) ∧ WW.cell? ⟨w.heap.size, 0, none⟩ = some (.int .i64 px) ∧ WW.cell? ⟨w.heap.size, 1, none⟩ = some (.int .i64 pz) ∧ WW.cell? ⟨w.heap.size, 2, none⟩ = some (.int .i64 pd) ∧ WW.cell? ⟨O, 0, none⟩ = some (.int .i64 ax) ∧ WW.cell? ⟨O, 1, none⟩ = some (.int .i64 ay) ∧ WW.cell? ⟨O, 2, none⟩ = some (.int .i64 az)) (first | go_keep | fail) (fail)
      rename_i hH
      clear hH
      have W0 : ∀ x : Int, -9000000000000 ≤ x → x ≤ 9000000000000 → IntKind.i64.wrap x = x := fun x h1 h2 => by rw [IntKind.wrap_i64]; omega
      have m1 := mulB (x := px) (y := s) (K := 5000) (L := 2048) (by omega) (by omega)
      have m2 := mulB (x := pz) (y := s) (K := 5000) (L := 2048) (by omega) (by omega)
      have m3 := mulB (x := ay) (y := s) (K := 2048) (L := 2048) (by omega) (by omega)
      have m4 := mulB (x := ay * s) (y := pd) (K := 2048 * 2048) (L := 32) m3 (by omega)
      have m5 := mulB (x := ax) (y := pd) (K := 32) (L := 32) (by omega) (by omega)
      have m6 := mulB (x := az) (y := pd) (K := 32) (L := 32) (by omega) (by omega)
      have m7 := mulB (x := nx) (y := px - ax * pd) (K := 262144) (L := 6024) (by omega) (by omega)
      have m8 := mulB (x := nz) (y := pz - az * pd) (K := 262144) (L := 6024) (by omega) (by omega)
      have m9 := mulB (x := s) (y := pd) (K := 2048) (L := 32) (by omega) (by omega)
      rw [W0 (px * s) (by omega) (by omega), W0 (pz * s) (by omega) (by omega), W0 (ay * s) (by omega) (by omega), W0 (ay * s * pd) (by omega) (by omega), W0 (ax * pd) (by omega) (by omega), W0 (px - ax * pd) (by omega) (by omega), W0 (nx * (px - ax * pd)) (by omega) (by omega), W0 (az * pd) (by omega) (by omega), W0 (pz - az * pd) (by omega) (by omega), W0 (nz * (pz - az * pd)) (by omega) (by omega), W0 (ay * s * pd + nx * (px - ax * pd)) (by omega) (by omega), W0 (ay * s * pd + nx * (px - ax * pd) + nz * (pz - az * pd)) (by omega) (by omega), W0 (s * pd) (by omega) (by omega)]
      go_wp2
      go_meet
      rw [HR.out]
      exact ⟨_, rfl, World.alloc_heap_new W3 _, ((Below.refl _ _).alloc (Nat.le_refl _) _).drew⟩
  case rest =>
  obtain ⟨C, rfl, hC4, hbW⟩ := hcut
  obtain ⟨W4, rfl⟩ : ∃ W4 : World, W4 = wc := ⟨_, rfl⟩
  have hQ4 := hkeep hbW hQ3
  have hB4 := hB3.trans (hbW.mono hB3.size)
  clear hO3 hP3 hQ3 hT3 hB3 hbW NX NZ
  have hbd : (-10240000 ≤ rw'.x ∧ rw'.x ≤ 10240000) ∧ (-10240000 ≤ rw'.z ∧ rw'.z ≤ 10240000) ∧ (-5000000000 ≤ rw'.y ∧ rw'.y ≤ 5000000000) ∧ 0 < rw'.d ∧ rw'.d ≤ 65536 := by
    rw [HR.out]
    simp only
    have m1 := mulB (x := px) (y := s) (K := 5000) (L := 2048) (by omega) (by omega)
    have m2 := mulB (x := pz) (y := s) (K := 5000) (L := 2048) (by omega) (by omega)
    have m3 := mulB (x := ay) (y := s) (K := 2048) (L := 2048) (by omega) (by omega)
    have m4 := mulB (x := ay * s) (y := pd) (K := 2048 * 2048) (L := 32) m3 (by omega)
    have m5 := mulB (x := ax) (y := pd) (K := 32) (L := 32) (by omega) (by omega)
    have m6 := mulB (x := az) (y := pd) (K := 32) (L := 32) (by omega) (by omega)
    have m7 := mulB (x := nx) (y := px - ax * pd) (K := 262144) (L := 6024) (by omega) (by omega)
    have m8 := mulB (x := nz) (y := pz - az * pd) (K := 262144) (L := 6024) (by omega) (by omega)
    have m9 := mulB (x := s) (y := pd) (K := 2048) (L := 32) (by omega) (by omega)
    have m10 := Int.mul_pos hs1 hpd
    omega
  obtain ⟨rx, rz, ry, rd⟩ := rw'
  simp only at hbd hC4
  obtain ⟨⟨x1, x2⟩, ⟨z1, z2⟩, ⟨y1, y2⟩, r1, r2⟩ := hbd
  clear HR
  have v3 := hcell (k := 3) (v := .int .i64 rd) hC4 rfl
  have v0 := hcell (k := 0) (v := .int .i64 rx) hC4 rfl
  have v1 := hcell (k := 1) (v := .int .i64 rz) hC4 rfl
  have v2 := hcell (k := 2) (v := .int .i64 ry) hC4 rfl
  have hbb : Below W4.heap.size W4 W4 := Below.refl _ _
  go_wp2
  refine wp_loop_rounds 4 ?_
  rw [rounds_succ]
  go_wp2_with fail
  go_loopw [11, 13] (fun g n wr => ∃ G N : Int, g = .int .i64 G ∧ n = .int .i64 N ∧ Hid (Int.gcd G N = Int.gcd rd rx) ∧ -10000000000 ≤ G ∧ G ≤ 10000000000 ∧ -10000000000 ≤ N ∧ N ≤ 10000000000 ∧ Below W4.heap.size W4 wr) (fun _ n _ => (intOf n).natAbs)
  case atStart => exact ⟨_, _, rfl, rfl, rfl, by omega, by omega, by omega, by omega, hbb⟩
  case round =>
    clear hbb
    obtain ⟨G, N, rfl, rfl, HG, g1, g2, m1, m2, hbb⟩ := hrel
    by_cases hN : N = 0
    · subst hN
      have HK : Hid (max G (-G) = ((Int.gcd rd rx : Nat) : Int)) := gcd_end HG.out
      clear HG
      go_wp2_with fail
      rw [HK.out]
      have hK := gcd_bound (K := 10000000000) (a := rd) (b := rx) (by omega) (by omega) (by omega) (by omega)
      clear HK
      obtain ⟨K1, hK1⟩ : ∃ K : Int, Hid (K = ((Int.gcd rd rx : Nat) : Int)) := ⟨_, rfl⟩
      rw [← hK1.out] at hK ⊢
      rw [rounds_succ]
      go_wp2_with fail
      go_loopw [11, 13] (fun g n wr => ∃ G N : Int, g = .int .i64 G ∧ n = .int .i64 N ∧ Hid (Int.gcd G N = Int.gcd K1 rz) ∧ -10000000000 ≤ G ∧ G ≤ 10000000000 ∧ -10000000000 ≤ N ∧ N ≤ 10000000000 ∧ Below W4.heap.size W4 wr) (fun _ n _ => (intOf n).natAbs)
      case atStart => exact ⟨_, _, rfl, rfl, rfl, by omega, by omega, by omega, by omega, hbb⟩
      case round =>
        clear hbb
        obtain ⟨G, N, rfl, rfl, HG, g1, g2, m1, m2, hbb⟩ := hrel
        by_cases hN : N = 0
        · subst hN
          have HK : Hid (max G (-G) = ((Int.gcd K1 rz : Nat) : Int)) := gcd_end HG.out
          clear HG
          go_wp2_with fail
          rw [HK.out]
          have hK := gcd_bound (K := 10000000000) (a := K1) (b := rz) (by omega) (by omega) (by omega) (by omega)
          clear HK
          obtain ⟨K2, hK2⟩ : ∃ K : Int, Hid (K = ((Int.gcd K1 rz : Nat) : Int)) := ⟨_, rfl⟩
          rw [← hK2.out] at hK ⊢
          rw [rounds_succ]
          go_wp2_with fail
          go_loopw [11, 13] (fun g n wr => ∃ G N : Int, g = .int .i64 G ∧ n = .int .i64 N ∧ Hid (Int.gcd G N = Int.gcd K2 ry) ∧ -10000000000 ≤ G ∧ G ≤ 10000000000 ∧ -10000000000 ≤ N ∧ N ≤ 10000000000 ∧ Below W4.heap.size W4 wr) (fun _ n _ => (intOf n).natAbs)
          case atStart => exact ⟨_, _, rfl, rfl, rfl, by omega, by omega, by omega, by omega, hbb⟩
          case round =>
            clear hbb
            obtain ⟨G, N, rfl, rfl, HG, g1, g2, m1, m2, hbb⟩ := hrel
            by_cases hN : N = 0
            · subst hN
              have HK : Hid (max G (-G) = ((Int.gcd K2 ry : Nat) : Int)) := gcd_end HG.out
              clear HG
              go_wp2_with fail
              rw [HK.out]
              have hK := gcd_bound (K := 10000000000) (a := K2) (b := ry) (by omega) (by omega) (by omega) (by omega)
              clear HK
              obtain ⟨K3, hK3⟩ : ∃ K : Int, Hid (K = ((Int.gcd K2 ry : Nat) : Int)) := ⟨_, rfl⟩
              rw [← hK3.out] at hK ⊢
              rw [rounds_succ]
              have hCr := hkeep hbb hC4
              have hQr := hkeep hbb hQ4
              have hBr := hB4.trans (hbb.mono hB4.size)
              have hK0 : ¬ K3 = 0 := by omega
              have t0 := tdiv_bound (x := rx) (K := K3) (M := 10000000000) (by omega) (by omega) (by omega)
              have t1 := tdiv_bound (x := rz) (K := K3) (M := 10000000000) (by omega) (by omega) (by omega)
              have t2 := tdiv_bound (x := ry) (K := K3) (M := 10000000000) (by omega) (by omega) (by omega)
              have t3 := tdiv_bound (x := rd) (K := K3) (M := 10000000000) (by omega) (by omega) (by omega)
              have HE : Hid (lf = ⟨rx.tdiv K3, rz.tdiv K3, ry.tdiv K3, rd.tdiv K3⟩) := by show _ = _; rw [HL.out, lowC, gcdC]; simp only; rw [hK3.out, hK2.out, hK1.out]
              have v0 := hcell (k := 0) (v := .int .i64 rx) hCr rfl
              have v1 := hcell (k := 1) (v := .int .i64 rz) hCr rfl
              have v2 := hcell (k := 2) (v := .int .i64 ry) hCr rfl
              have v3 := hcell (k := 3) (v := .int .i64 rd) hCr rfl
              go_wp2_with fail
              have e_v0 := fun d os => cell_regrown v0 d os
              have e_v1 := fun d os => cell_regrown v1 d os
              have e_v2 := fun d os => cell_regrown v2 d os
              have e_v3 := fun d os => cell_regrown v3 d os
              clear v0 v1 v2 v3
              refine wp_region_below_tail 17 (by kernel_rfl) (by kernel_rfl) ?_
              simp only [List.take_succ_cons, List.take_zero, List.drop_succ_cons, List.drop_zero]
              repeat (go_big_quiet_step (fail))
              refine wpQuiet_nil ?_
              rintro w8 ⟨⟨dq, osq⟩, hw8⟩
              have hstep : Below wr.heap.size wr w8 := by rw [hw8]; exact below_regrown wr dq osq
              clear hw8 e_v0 e_v1 e_v2 e_v3
              have hQ8 := hkeep hstep hQr
              have hB8 := hBr.trans (hstep.mono hBr.size)
              clear hstep
              have f0 := hfroz (k := 0) hQ8
              have f1 := hfroz (k := 1) hQ8
              have f2 := hfroz (k := 2) hQ8
              have f3 := hfroz (k := 3) hQ8
              have z0 := hcell (k := 0) (v := .int .i64 0) hQ8 rfl
              have z1 := hcell (k := 1) (v := .int .i64 0) hQ8 rfl
              have z2 := hcell (k := 2) (v := .int .i64 0) hQ8 rfl
              have z3 := hcell (k := 3) (v := .int .i64 0) hQ8 rfl
              have hQ9 := box4_set hQ8 (.int .i64 (rx.tdiv K3)) (.int .i64 (rz.tdiv K3)) (.int .i64 (ry.tdiv K3)) (.int .i64 (rd.tdiv K3))
              have hB9 := hB8.grown (box4_grown (b := w.heap.size + 1) (.int .i64 (rx.tdiv K3)) (.int .i64 (rz.tdiv K3)) (.int .i64 (ry.tdiv K3)) (.int .i64 (rd.tdiv K3))) hB8.size (fun j hj => by cases hj; omega)
              go_wp2
              refine bodyPost_ret (results_cell_row rfl _ _ (w.heap.size + 1) 105 #[.int .i64 (rx.tdiv K3), .int .i64 (rz.tdiv K3), .int .i64 (ry.tdiv K3), .int .i64 (rd.tdiv K3)] (0, 0) _ rfl hQ9 Tryz.underlying105 rfl (by kernel_rfl)) rfl ⟨?_, hB9⟩
              rw [HE.out]
            · have hr0 : (N != 0) = true := by simpa using hN
              have hstep := gcd_rem (G := G) hN
              have hlt := rem_lt (G := G) hN
              have hbd := rem_bound (G := G) (N := N) (K := 10000000000) hN (by omega) (by omega)
              have HG2 : Hid (Int.gcd N (G.tmod N) = Int.gcd K2 ry) := by show _ = _; rw [hstep]; exact HG.out
              clear hstep
              go_wp2
              refine wp_region_quiet_below (by kernel_rfl) (by kernel_rfl) ?_
              repeat (go_big_quiet_step (fail))
              refine wpQuiet_nil ?_
              rintro w9 ⟨⟨dq, osq⟩, hw9⟩
              have hbb2 : Below W4.heap.size W4 w9 := by rw [hw9]; exact hbb.trans ((below_regrown wr dq osq).mono hbb.size)
              clear hw9
              go_wp2
              go_roundw
              case rel => exact ⟨N, G.tmod N, rfl, rfl, HG2, by omega, by omega, by omega, by omega, hbb2⟩
              case measure => simp [intOf]; first | exact Nat.mod_lt _ (by omega) | omega
        · have hr0 : (N != 0) = true := by simpa using hN
          have hstep := gcd_rem (G := G) hN
          have hlt := rem_lt (G := G) hN
          have hbd := rem_bound (G := G) (N := N) (K := 10000000000) hN (by omega) (by omega)
          have HG2 : Hid (Int.gcd N (G.tmod N) = Int.gcd K1 rz) := by show _ = _; rw [hstep]; exact HG.out
          clear hstep
          go_wp2
          refine wp_region_quiet_below (by kernel_rfl) (by kernel_rfl) ?_
          repeat (go_big_quiet_step (fail))
          refine wpQuiet_nil ?_
          rintro w9 ⟨⟨dq, osq⟩, hw9⟩
          have hbb2 : Below W4.heap.size W4 w9 := by rw [hw9]; exact hbb.trans ((below_regrown wr dq osq).mono hbb.size)
          clear hw9
          go_wp2
          go_roundw
          case rel => exact ⟨N, G.tmod N, rfl, rfl, HG2, by omega, by omega, by omega, by omega, hbb2⟩
          case measure => simp [intOf]; first | exact Nat.mod_lt _ (by omega) | omega
    · have hr0 : (N != 0) = true := by simpa using hN
      have hstep := gcd_rem (G := G) hN
      have hlt := rem_lt (G := G) hN
      have hbd := rem_bound (G := G) (N := N) (K := 10000000000) hN (by omega) (by omega)
      have HG2 : Hid (Int.gcd N (G.tmod N) = Int.gcd rd rx) := by show _ = _; rw [hstep]; exact HG.out
      clear hstep
      go_wp2
      refine wp_region_quiet_below (by kernel_rfl) (by kernel_rfl) ?_
      repeat (go_big_quiet_step (fail))
      refine wpQuiet_nil ?_
      rintro w9 ⟨⟨dq, osq⟩, hw9⟩
      have hbb2 : Below W4.heap.size W4 w9 := by rw [hw9]; exact hbb.trans ((below_regrown wr dq osq).mono hbb.size)
      clear hw9
      go_wp2
      go_roundw
      case rel => exact ⟨N, G.tmod N, rfl, rfl, HG2, by omega, by omega, by omega, by omega, hbb2⟩
      case measure => simp [intOf]; first | exact Nat.mod_lt _ (by omega) | omega
end Go.Proofs.YtjiklfffcnfdjaaGreat
