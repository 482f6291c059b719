/- Walk: does the triangle hold a point? -/
import Derived.Test.YtdkikecjlbgmdaaGreatGn
namespace Go.Proofs.YtdkikecjlbgmdaaGreat
open Go.RowKit
attribute [local go_sem] Instr.index

def edgeK (t : T3) (p : Sp) : Nat → Int
  | 0 => edgeS t.a t.b p
  | 1 => edgeS t.b t.c p
  | _ => edgeS t.c t.a p
theorem holds_of {t : T3} {p : Sp} (h : ∀ j, j < 3 → 0 ≤ edgeK t p j) : holdsT t p = true := by
  have h0 := h 0 (by omega)
  have h1 := h 1 (by omega)
  have h2 := h 2 (by omega)
  simp only [edgeK] at h0 h1 h2
  simp [holdsT, h0, h1, h2]
theorem holds_not {t : T3} {p : Sp} {j : Nat} (hj : j < 3) (h : edgeK t p j < 0) : holdsT t p = false := by
  have : j = 0 ∨ j = 1 ∨ j = 2 := by omega
  rcases this with rfl | rfl | rfl <;> simp only [edgeK] at h <;> simp [holdsT] <;> omega
def tOk (t : T3) : Prop := vOk t.a = true ∧ vOk t.b = true ∧ vOk t.c = true ∧ 0 < t.s ∧ t.s ≤ 2048
theorem edge_any (a b : V3) (p : Sp) (w : World) (ha : vOk a = true) (hb : vOk b = true) (hp : SpSmall p) :
    Calls Tryz.prog 126 #[.int .i64 (b.x - a.x), .int .i64 (b.z - a.z), .int .i64 (p.x - a.x * p.d), .int .i64 (p.z - a.z * p.d)] w fun e w' => e = .returned (.int .i64 (edgeS a b p)) ∧ w' = w := by
  rw [vOk_iff] at ha hb
  obtain ⟨p1, p2, p3, p4, p5, p6⟩ := hp
  have m1 := mulB (x := a.x) (y := p.d) (K := 40) (L := 40) (by omega) (by omega)
  have m2 := mulB (x := a.z) (y := p.d) (K := 40) (L := 40) (by omega) (by omega)
  exact ccross_any _ _ _ _ w (by unfold Sm30; omega) (by unfold Sm30; omega) (by unfold Sm30; omega) (by unfold Sm30; omega)

set_option maxRecDepth 100000 in
set_option maxHeartbeats 16000000 in
theorem holdst_any (t : T3) (p : Sp) (T : Nat) (w : World) (hT : w.heap[T]? = some (.cells (t3C t) 137 (0, 0))) (ht : tOk t) (hp : SpSmall p) :
    Calls Tryz.prog 102 #[.pointer (some ⟨T, 0, none⟩), spA p] w fun e w' => e = .returned (.bool (holdsT t p)) ∧ Below w.heap.size w w' := by
  obtain ⟨h1, h2, h3, _, _⟩ := ht
  have E0 : Hid (∀ W, Calls Tryz.prog 126 #[.int .i64 (t.b.x - t.a.x), .int .i64 (t.b.z - t.a.z), .int .i64 (p.x - t.a.x * p.d), .int .i64 (p.z - t.a.z * p.d)] W fun e w' => e = .returned (.int .i64 (edgeK t p 0)) ∧ w' = W) := fun W => edge_any t.a t.b p W h1 h2 hp
  have E1 : Hid (∀ W, Calls Tryz.prog 126 #[.int .i64 (t.c.x - t.b.x), .int .i64 (t.c.z - t.b.z), .int .i64 (p.x - t.b.x * p.d), .int .i64 (p.z - t.b.z * p.d)] W fun e w' => e = .returned (.int .i64 (edgeK t p 1)) ∧ w' = W) := fun W => edge_any t.b t.c p W h2 h3 hp
  have E2 : Hid (∀ W, Calls Tryz.prog 126 #[.int .i64 (t.a.x - t.c.x), .int .i64 (t.a.z - t.c.z), .int .i64 (p.x - t.c.x * p.d), .int .i64 (p.z - t.c.z * p.d)] W fun e w' => e = .returned (.int .i64 (edgeK t p 2)) ∧ w' = W) := fun W => edge_any t.c t.a p W h3 h1 hp
  have HY := Lib.hid (holds_of (t := t) (p := p))
  have HN := Lib.hid (fun j hj h => holds_not (t := t) (p := p) (j := j) hj h)
  generalize edgeK t p = ed at E0 E1 E2 HY HN
  generalize holdsT t p = r at HY HN ⊢
  rw [vOk_iff] at h1 h2 h3
  obtain ⟨p1, p2, p3, p4, p5, p6⟩ := hp
  have m1 := mulB (x := t.a.x) (y := p.d) (K := 40) (L := 40) (by omega) (by omega)
  have m2 := mulB (x := t.a.z) (y := p.d) (K := 40) (L := 40) (by omega) (by omega)
  have m3 := mulB (x := t.b.x) (y := p.d) (K := 40) (L := 40) (by omega) (by omega)
  have m4 := mulB (x := t.b.z) (y := p.d) (K := 40) (L := 40) (by omega) (by omega)
  have m5 := mulB (x := t.c.x) (y := p.d) (K := 40) (L := 40) (by omega) (by omega)
  have m6 := mulB (x := t.c.z) (y := p.d) (K := 40) (L := 40) (by omega) (by omega)
  obtain ⟨⟨ax, ay, az⟩, ⟨bx, by_, bz⟩, ⟨cx, cy, cz⟩, s⟩ := t
  obtain ⟨px, pz, pd⟩ := p
  simp only at h1 h2 h3 m1 m2 m3 m4 m5 m6 p1 p2 p3 p4 p5 p6 E0 E1 E2
  have hB : Below w.heap.size w (w.alloc (.cells #[.int .i64 px, .int .i64 pz, .int .i64 pd] 141)) := (Below.refl _ _).alloc (Nat.le_refl _) _
  have hP := World.alloc_heap_new w (.cells #[.int .i64 px, .int .i64 pz, .int .i64 pd] 141)
  have hT1 := halloc hT (.cells #[.int .i64 px, .int .i64 pz, .int .i64 pd] 141)
  have hTw := hblt hT
  go_enter Tryz.func102, Tryz.ntmps102
  go_wp2
  generalize hW : w.alloc (.cells #[.int .i64 px, .int .i64 pz, .int .i64 pd] 141) = W at hB hP hT1
  go_loopw [8] (fun i wr => ∃ k : Nat, i = .int .i64 k ∧ k ≤ 3 ∧ Hid (∀ j, j < k → 0 ≤ ed j) ∧ Below W.heap.size W wr) (fun i _ => 3 - (intOf i).toNat)
  case atStart => exact ⟨0, rfl, by omega, fun j hj => absurd hj (Nat.not_lt_zero j), Below.refl _ _⟩
  case round =>
    obtain ⟨k, rfl, hk, HE, hb⟩ := hrel
    have hTr := hkeep hb hT1
    have hPr := hkeep hb hP
    have hBr := hB.trans (hb.mono hB.size)
    have c0 := hcell (k := 0) (v := .int .i64 ax) hTr rfl
    have c1 := hcell (k := 1) (v := .int .i64 ay) hTr rfl
    have c2 := hcell (k := 2) (v := .int .i64 az) hTr rfl
    have c3 := hcell (k := 3) (v := .int .i64 bx) hTr rfl
    have c4 := hcell (k := 4) (v := .int .i64 by_) hTr rfl
    have c5 := hcell (k := 5) (v := .int .i64 bz) hTr rfl
    have c6 := hcell (k := 6) (v := .int .i64 cx) hTr rfl
    have c7 := hcell (k := 7) (v := .int .i64 cy) hTr rfl
    have c8 := hcell (k := 8) (v := .int .i64 cz) hTr rfl
    have q0 := hcell (k := 0) (v := .int .i64 px) hPr rfl
    have q1 := hcell (k := 1) (v := .int .i64 pz) hPr rfl
    have q2 := hcell (k := 2) (v := .int .i64 pd) hPr rfl
    have s1 := hblt hTr
    have s2 := hblt hPr
    have n1 := World.new_ne wr _ c0
    have n2 := World.new_ne wr _ q0
    by_cases hk3 : k = 3
    · subst hk3
      have HR : Hid (r = true) := HY.out HE.out
      clear c0 c1 c2 c3 c4 c5 c6 c7 c8 q0 q1 q2 hTr hPr
      go_wp2
      go_ret
      exact ⟨ret_bool HR.out.symm, hBr⟩
    have hkI : (k : Int) < 3 := by omega
    have hC : ∃ (k2 : Nat) (s0 s1 s2 s3 s4 s5 : Int), (k2 : Int) < 3 ∧ ((k : Int) + 1).tmod 3 = (k2 : Int) ∧ wr.cell? ⟨T, k * 3, none⟩ = some (.int .i64 s0) ∧ wr.cell? ⟨T, k * 3 + 1, none⟩ = some (.int .i64 s1) ∧ wr.cell? ⟨T, k * 3 + 2, none⟩ = some (.int .i64 s2) ∧ wr.cell? ⟨T, k2 * 3, none⟩ = some (.int .i64 s3) ∧ wr.cell? ⟨T, k2 * 3 + 1, none⟩ = some (.int .i64 s4) ∧ wr.cell? ⟨T, k2 * 3 + 2, none⟩ = some (.int .i64 s5) ∧ (0 ≤ s0 ∧ s0 ≤ 32) ∧ (0 ≤ s2 ∧ s2 ≤ 32) ∧ (0 ≤ s3 ∧ s3 ≤ 32) ∧ (0 ≤ s5 ∧ s5 ≤ 32) ∧ Hid (∀ W, Calls Tryz.prog 126 #[.int .i64 (s3 - s0), .int .i64 (s5 - s2), .int .i64 (px - s0 * pd), .int .i64 (pz - s2 * pd)] W fun e w' => e = .returned (.int .i64 (ed k)) ∧ w' = W) := by
      have hk' : k = 0 ∨ k = 1 ∨ k = 2 := by omega
      rcases hk' with rfl | rfl | rfl
      · exact ⟨1, ax, ay, az, bx, by_, bz, by decide, by decide, c0, c1, c2, c3, c4, c5, by omega, by omega, by omega, by omega, E0⟩
      · exact ⟨2, bx, by_, bz, cx, cy, cz, by decide, by decide, c3, c4, c5, c6, c7, c8, by omega, by omega, by omega, by omega, E1⟩
      · exact ⟨0, cx, cy, cz, ax, ay, az, by decide, by decide, c6, c7, c8, c0, c1, c2, by omega, by omega, by omega, by omega, E2⟩
    clear c0 c1 c2 c3 c4 c5 c6 c7 c8 n1 m1 m2 m3 m4 m5 m6 h1 h2 h3 hTr q0 q1 q2 n2
    obtain ⟨k2, s0, s1, s2, s3, s4, s5, hk2, hm, d0, d1, d2, d3, d4, d5, b0, b2, b3, b5, EK⟩ := hC
    have n1 := World.new_ne wr _ d0
    have hw1 : IntKind.i64.wrap ((k : Int) + 1) = (k : Int) + 1 := by rw [IntKind.wrap_i64]; omega
    have hk0 : (0 : Int) ≤ (k : Int) := by omega
    have hk1 : (0 : Int) ≤ (k2 : Int) := by omega
    have m1 := mulB (x := s0) (y := pd) (K := 40) (L := 40) (by omega) (by omega)
    have m2 := mulB (x := s2) (y := pd) (K := 40) (L := 40) (by omega) (by omega)
    have HX : ∀ W1, Below wr.heap.size wr W1 → (W1.cell? ⟨w.heap.size, 0, none⟩ = some (.int .i64 px) ∧ W1.cell? ⟨w.heap.size, 1, none⟩ = some (.int .i64 pz) ∧ W1.cell? ⟨w.heap.size, 2, none⟩ = some (.int .i64 pd)) := fun W1 h => ⟨hcell (hkeep h hPr) rfl, hcell (hkeep h hPr) rfl, hcell (hkeep h hPr) rfl⟩
    have HX' := Lib.hid HX
    clear HX hPr
    go_wp2_with fail
    go_region_held3 (fun WW => WW.cell? ⟨T, k * 3, none⟩ = some (.int .i64 s0) ∧ WW.cell? ⟨T, k * 3 + 1, none⟩ = some (.int .i64 s1) ∧ WW.cell? ⟨T, k * 3 + 2, none⟩ = some (.int .i64 s2) ∧ WW.cell? ⟨T, k2 * 3, none⟩ = some (.int .i64 s3) ∧ WW.cell? ⟨T, k2 * 3 + 1, none⟩ = some (.int .i64 s4) ∧ WW.cell? ⟨T, k2 * 3 + 2, none⟩ = some (.int .i64 s5)) (first | go_keep | fail) (fail)
    all_goals
      rename_i hH
      clear hH
      have hD1 : Below wr.heap.size wr ((wr.alloc (.cells #[.int .i64 s0, .int .i64 s1, .int .i64 s2] 32)).alloc (.cells #[.int .i64 s3, .int .i64 s4, .int .i64 s5] 32)).drew := ((((Below.refl wr.heap.size wr).alloc (Nat.le_refl _) (.cells #[.int .i64 s0, .int .i64 s1, .int .i64 s2] 32)).alloc (by simp) (.cells #[.int .i64 s3, .int .i64 s4, .int .i64 s5] 32))).drew
      have hD2 : Below wr.heap.size wr ((wr.alloc (.cells #[.int .i64 s3, .int .i64 s4, .int .i64 s5] 32)).alloc (.cells #[.int .i64 s0, .int .i64 s1, .int .i64 s2] 32)).drew := ((((Below.refl wr.heap.size wr).alloc (Nat.le_refl _) (.cells #[.int .i64 s3, .int .i64 s4, .int .i64 s5] 32)).alloc (by simp) (.cells #[.int .i64 s0, .int .i64 s1, .int .i64 s2] 32))).drew
      obtain ⟨x0, x1, x2⟩ := HX'.out _ hD1
      obtain ⟨y0, y1, y2⟩ := HX'.out _ hD2
      have hb1 := Lib.hid (hb.trans (hD1.mono hb.size))
      have hb2 := Lib.hid (hb.trans (hD2.mono hb.size))
      clear hD1 hD2 d0 d1 d2 d3 d4 d5 n1
      go_wp2_with fail
      refine (EK.out _).mono ?_
      rintro e w5 ⟨rfl, rfl⟩
      by_cases hneg : ed k < 0
      · have HR : Hid (r = false) := HN.out k (by omega) hneg
        go_wp2
        go_ret
        first
          | exact ⟨ret_bool HR.out.symm, hB.trans (hb1.out.mono hB.size)⟩
          | exact ⟨ret_bool HR.out.symm, hB.trans (hb2.out.mono hB.size)⟩
      · have HE2 : Hid (∀ j, j < k + 1 → 0 ≤ ed j) := fun j hj => by
          by_cases hjk : j = k
          · subst hjk; omega
          · exact HE.out j (by omega)
        go_wp2
        go_roundw
        case rel => first | exact ⟨k + 1, by go_num, by omega, HE2, hb1.out⟩ | exact ⟨k + 1, by go_num, by omega, HE2, hb2.out⟩
        case measure => simp [intOf]; omega
end Go.Proofs.YtdkikecjlbgmdaaGreat
