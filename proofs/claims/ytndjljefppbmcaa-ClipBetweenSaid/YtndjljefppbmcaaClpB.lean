/- Walk: heights over a column lie between the triangle's own. -/
import Derived.Test.YtndjljefppbmcaaClpA
import Derived.Test.YtndjljefppbmcaaClpZ
import Derived.Test.YtndjljefppbmcaaClpE
namespace Go.Proofs.Ytndjljefppbmcaa
open Go.RowKit

set_option maxRecDepth 100000 in
set_option maxHeartbeats 16000000 in
theorem clipbetween_any (i : Int) (a b c : V3) (x z : Int) (w : World) :
    Calls Try.prog 12 #[tiA i a b c, .int .i64 x, .int .i64 z] w fun e w' => e = .returned (.bool true) ∧ Below w.heap.size w w' := by
  have OV := Lib.hid (fun W => overE_any i a b c x z W)
  have WK := Lib.hid (fun W => wakes07_any W)
  have hB : Below w.heap.size w (w.alloc (triO i a b c)) := (Below.refl _ _).alloc (Nat.le_refl _) _
  have hI := World.alloc_heap_new w (triO i a b c)
  by_cases he : (overE a b c x z).2.2.2 = 0
  · have CL := Lib.hid (fun W => columns_any i a b c W)
    obtain ⟨hop, hin, hov⟩ := overE_ok he
    have hcl : colsE a b c = (min (min a.x b.x) c.x - 1, min (min a.z b.z) c.z - 1, max (max a.x b.x) c.x, max (max a.z b.z) c.z, 0) := by unfold colsE; rw [if_neg (by rw [hop]; decide)]
    rw [hcl] at CL
    cases hok : (overE a b c x z).2.2.1 with
    | false =>
      obtain ⟨n1, n2⟩ := overE_no hok
      have hr : overE a b c x z = (0, 0, false, 0) := Prod.ext n1 (Prod.ext n2 (Prod.ext hok he))
      rw [hr] at OV
      simp only at OV CL
      generalize min (min a.x b.x) c.x - 1 = X0 at CL
      generalize min (min a.z b.z) c.z - 1 = Z0 at CL
      generalize max (max a.x b.x) c.x = X1 at CL
      generalize max (max a.z b.z) c.z = Z1 at CL
      clear he hop hin hov hcl hok n1 n2 hr
      obtain ⟨ax, ay, az⟩ := a
      obtain ⟨bx, by_, bz⟩ := b
      obtain ⟨cx, cy, cz⟩ := c
      go_enter Try.func12, Try.ntmps12
      go_wp2_with fail
      refine (OV.out _).mono ?_
      rintro e w1 ⟨rfl, hb1⟩
      have hB1 := hB.trans (hb1.mono hB.size)
      have hI1 := hkeep hb1 hI
      have k0 := hcell (k := 0) (v := .int .i64 i) hI1 rfl
      have k1 := hcell (k := 1) (v := .int .i64 ax) hI1 rfl
      have k2 := hcell (k := 2) (v := .int .i64 ay) hI1 rfl
      have k3 := hcell (k := 3) (v := .int .i64 az) hI1 rfl
      have k4 := hcell (k := 4) (v := .int .i64 bx) hI1 rfl
      have k5 := hcell (k := 5) (v := .int .i64 by_) hI1 rfl
      have k6 := hcell (k := 6) (v := .int .i64 bz) hI1 rfl
      have k7 := hcell (k := 7) (v := .int .i64 cx) hI1 rfl
      have k8 := hcell (k := 8) (v := .int .i64 cy) hI1 rfl
      have k9 := hcell (k := 9) (v := .int .i64 cz) hI1 rfl
      clear hB hb1 hI
      go_wp2_with fail
      refine (CL.out _).mono ?_
      rintro e w2 ⟨rfl, hb2⟩
      have hB2 := hB1.trans (hb2.mono hB1.size)
      clear hB1 hb2 k0 k1 k2 k3 k4 k5 k6 k7 k8 k9
      go_wp2_with fail
      refine (WK.out _).mono ?_
      rintro e w3 ⟨rfl, hb3⟩
      have hB3 := hB2.trans (hb3.mono hB2.size)
      clear hB2 hb3
      go_wp2
      go_ret
      exact ⟨rfl, hB3⟩
    | true =>
      have hr : overE a b c x z = ((overE a b c x z).1, (overE a b c x z).2.1, true, 0) := Prod.ext rfl (Prod.ext rfl (Prod.ext hok he))
      obtain ⟨lo, hlo⟩ : ∃ lo, lo = (overE a b c x z).1 := ⟨_, rfl⟩
      obtain ⟨hi, hhi⟩ : ∃ hi, hi = (overE a b c x z).2.1 := ⟨_, rfl⟩
      rw [← hlo, ← hhi] at hr
      obtain ⟨f0, f1, f2, f3, f4, f5, f6, f7⟩ := between_facts hr
      have HR1 := Lib.hid hr
      rw [hr] at OV
      simp only at OV CL
      have hx1 : IntKind.i64.wrap (x + 1) = x + 1 := by unfold inC at f0; rw [IntKind.wrap_i64]; omega
      have OV2 := Lib.hid (fun W => overE_any i a b c (x + 1) z W)
      have HB2 := Lib.hid (fun h => overE_bad (a := a) (b := b) (c := c) (x := x + 1) (z := z) h)
      have HN2 := Lib.hid (fun h => overE_no (a := a) (b := b) (c := c) (x := x + 1) (z := z) h)
      have K1 := Lib.hid (fun W => corners_any i a b c x z W)
      have K2 := Lib.hid (fun W => corners_any i a b c (x + 1) z W)
      have HM := Lib.hid (fun l m e f p q h1 h2 o2 => corn_meet (a := a) (b := b) (c := c) (x := x) (z := z) (l := l) (m := m) (e := e) (f := f) (p := p) (q := q) h1 h2 hr o2)
      obtain ⟨r2, hr2⟩ : ∃ r2, r2 = overE a b c (x + 1) z := ⟨_, rfl⟩
      have HR2 := Lib.hid hr2.symm
      rw [← hr2] at OV2 HB2 HN2
      obtain ⟨p, q, th, g⟩ := r2
      simp only at OV2 HB2 HN2
      clear hr2 HR1
      have g1 : ¬ hi < lo := by omega
      have g2 : ¬ lo < min (min a.y b.y) c.y := by omega
      have g3 : ¬ max (max a.y b.y) c.y < hi := by omega
      have g4 : ¬ x < min (min a.x b.x) c.x - 1 := by omega
      have g5 : ¬ max (max a.x b.x) c.x < x := by omega
      have g6 : ¬ z < min (min a.z b.z) c.z - 1 := by omega
      have g7 : ¬ max (max a.z b.z) c.z < z := by omega
      clear f0 f1 f2 f3 f4 f5 f6 f7 hr hlo hhi hok hop hov he hin hcl
      generalize min (min a.x b.x) c.x - 1 = X0 at CL g4
      generalize min (min a.z b.z) c.z - 1 = Z0 at CL g6
      generalize max (max a.x b.x) c.x = X1 at CL g5
      generalize max (max a.z b.z) c.z = Z1 at CL g7
      obtain ⟨ax, ay, az⟩ := a
      obtain ⟨bx, by_, bz⟩ := b
      obtain ⟨cx, cy, cz⟩ := c
      simp only at g2 g3
      go_enter Try.func12, Try.ntmps12
      go_wp2_with fail
      refine (OV.out _).mono ?_
      rintro e w1 ⟨rfl, hb1⟩
      have hB1 := hB.trans (hb1.mono hB.size)
      have hI1 := hkeep hb1 hI
      have k0 := hcell (k := 0) (v := .int .i64 i) hI1 rfl
      have k1 := hcell (k := 1) (v := .int .i64 ax) hI1 rfl
      have k2 := hcell (k := 2) (v := .int .i64 ay) hI1 rfl
      have k3 := hcell (k := 3) (v := .int .i64 az) hI1 rfl
      have k4 := hcell (k := 4) (v := .int .i64 bx) hI1 rfl
      have k5 := hcell (k := 5) (v := .int .i64 by_) hI1 rfl
      have k6 := hcell (k := 6) (v := .int .i64 bz) hI1 rfl
      have k7 := hcell (k := 7) (v := .int .i64 cx) hI1 rfl
      have k8 := hcell (k := 8) (v := .int .i64 cy) hI1 rfl
      have k9 := hcell (k := 9) (v := .int .i64 cz) hI1 rfl
      clear hB hb1 hI
      go_wp2_with fail
      refine (CL.out _).mono ?_
      rintro e w2 ⟨rfl, hb2⟩
      have hB2 := hB1.trans (hb2.mono hB1.size)
      have hI2 := hkeep hb2 hI1
      clear k0 k1 k2 k3 k4 k5 k6 k7 k8 k9 hI1
      have k0 := hcell (k := 0) (v := .int .i64 i) hI2 rfl
      have k1 := hcell (k := 1) (v := .int .i64 ax) hI2 rfl
      have k2 := hcell (k := 2) (v := .int .i64 ay) hI2 rfl
      have k3 := hcell (k := 3) (v := .int .i64 az) hI2 rfl
      have k4 := hcell (k := 4) (v := .int .i64 bx) hI2 rfl
      have k5 := hcell (k := 5) (v := .int .i64 by_) hI2 rfl
      have k6 := hcell (k := 6) (v := .int .i64 bz) hI2 rfl
      have k7 := hcell (k := 7) (v := .int .i64 cx) hI2 rfl
      have k8 := hcell (k := 8) (v := .int .i64 cy) hI2 rfl
      have k9 := hcell (k := 9) (v := .int .i64 cz) hI2 rfl
      clear hB1 hb2
      go_upto_region 11 with fail
      simp only [min_ite, max_ite]
      go_wp2_with fail
      refine (OV2.out _).mono ?_
      rintro e w3 ⟨rfl, hb3⟩
      have hB3 := hB2.trans (hb3.mono hB2.size)
      have hI3 := hkeep hb3 hI2
      clear k0 k1 k2 k3 k4 k5 k6 k7 k8 k9 hI2
      have k0 := hcell (k := 0) (v := .int .i64 i) hI3 rfl
      have k1 := hcell (k := 1) (v := .int .i64 ax) hI3 rfl
      have k2 := hcell (k := 2) (v := .int .i64 ay) hI3 rfl
      have k3 := hcell (k := 3) (v := .int .i64 az) hI3 rfl
      have k4 := hcell (k := 4) (v := .int .i64 bx) hI3 rfl
      have k5 := hcell (k := 5) (v := .int .i64 by_) hI3 rfl
      have k6 := hcell (k := 6) (v := .int .i64 bz) hI3 rfl
      have k7 := hcell (k := 7) (v := .int .i64 cx) hI3 rfl
      have k8 := hcell (k := 8) (v := .int .i64 cy) hI3 rfl
      have k9 := hcell (k := 9) (v := .int .i64 cz) hI3 rfl
      clear hB2 hb3 OV OV2 CL
      by_cases hg : g = 0
      · subst hg
        cases th with
        | false =>
          clear HB2 HN2 HR2 HM K1 K2 hI3
          go_wp2_with fail
          refine (WK.out _).mono ?_
          rintro e w4 ⟨rfl, hb4⟩
          have hB4 := hB3.trans (hb4.mono hB3.size)
          clear hB3 hb4
          go_wp2
          go_ret
          exact ⟨rfl, hB4⟩
        | true =>
          clear HB2 HN2
          go_wp2_with fail
          refine (K1.out _).mono ?_
          rintro e w4 ⟨ad1, cp1, l1, e1, rfl, hc1, hs1, hb4⟩
          have hB4 := hB3.trans (hb4.mono hB3.size)
          have hI4 := hkeep hb4 hI3
          have HC1 := Lib.hid hc1
          have HS1 := Lib.hid hs1
          clear hB3 k0 k1 k2 k3 k4 k5 k6 k7 k8 k9 hI3 hb4 hc1 hs1 K1
          have k0 := hcell (k := 0) (v := .int .i64 i) hI4 rfl
          have k1 := hcell (k := 1) (v := .int .i64 ax) hI4 rfl
          have k2 := hcell (k := 2) (v := .int .i64 ay) hI4 rfl
          have k3 := hcell (k := 3) (v := .int .i64 az) hI4 rfl
          have k4 := hcell (k := 4) (v := .int .i64 bx) hI4 rfl
          have k5 := hcell (k := 5) (v := .int .i64 by_) hI4 rfl
          have k6 := hcell (k := 6) (v := .int .i64 bz) hI4 rfl
          have k7 := hcell (k := 7) (v := .int .i64 cx) hI4 rfl
          have k8 := hcell (k := 8) (v := .int .i64 cy) hI4 rfl
          have k9 := hcell (k := 9) (v := .int .i64 cz) hI4 rfl
          go_wp2_with fail
          refine (K2.out _).mono ?_
          rintro e w5 ⟨ad2, cp2, l2, e2, rfl, hc2, hs2, hb5⟩
          have hB5 := hB4.trans (hb5.mono hB4.size)
          have HMeet := Lib.hid (HM.out l1 l2 e1 e2 p q HC1.out hc2 HR2.out)
          have HS1' := Lib.hid (HS1.out.below hb5 (Nat.le_refl _))
          have HS2 := Lib.hid hs2
          clear hB4 k0 k1 k2 k3 k4 k5 k6 k7 k8 k9 hI4 hb5 hc2 hs2 K2 HC1 HS1 HM HR2
          obtain ⟨n1, hn1⟩ : ∃ n1, n1 = l1.length := ⟨_, rfl⟩
          obtain ⟨n2, hn2⟩ : ∃ n2, n2 = l2.length := ⟨_, rfl⟩
          rw [← hn1] at HS1' ⊢
          rw [← hn2] at HS2 ⊢
          have HN1 := Lib.hid hn1
          have HN2 := Lib.hid hn2
          clear hn1 hn2
          have hm1 := Nat.le_trans HS1'.out.le HS1'.out.max
          have hm2 := Nat.le_trans HS2.out.le HS2.out.max
          clear g1 g2 g3 g4 g5 g6 g7
          go_wp2_with fail
          go_loopw [163] (fun s163 wr => ∃ k : Nat, s163 = .int .i64 k ∧ k ≤ n1 ∧ Below w5.heap.size w5 wr) (fun s163 _ => n1 - (intOf s163).toNat)
          case atStart => exact ⟨0, rfl, Nat.zero_le _, Below.refl _ _⟩
          case round =>
            obtain ⟨k, rfl, hk, hb⟩ := hrel
            by_cases hlt : k < n1
            · have hltI : (k : Int) < (n1 : Int) := by omega
              obtain ⟨y, hy⟩ : ∃ y, l1[k]? = some y := ⟨_, List.getElem?_eq_getElem (by rw [← HN1.out]; exact hlt)⟩
              have hym := List.mem_of_getElem? hy
              obtain ⟨bk, off, rfl, _, hc⟩ := (HS1'.out.below hb (Nat.le_refl _)).at0 (by omega)
              have q0 : wr.cell? ⟨bk, off + k * 4, none⟩ = some (.int .i64 y.x) := hc k y hy 0 _ rfl
              have q1 : wr.cell? ⟨bk, off + k * 4 + 1, none⟩ = some (.int .i64 y.z) := hc k y hy 1 _ rfl
              have q2 : wr.cell? ⟨bk, off + k * 4 + 2, none⟩ = some (.int .i64 y.y) := hc k y hy 2 _ rfl
              have q3 : wr.cell? ⟨bk, off + k * 4 + 3, none⟩ = some (.int .i64 y.d) := hc k y hy 3 _ rfl
              have HK := Lib.hid (fun c' (h2 : c' ∈ l2) (he : y = c') => HMeet.out y hym (by rw [he]; exact h2))
              have hA := World.alloc_heap_new wr (.cells #[.int .i64 y.x, .int .i64 y.z, .int .i64 y.y, .int .i64 y.d] 78)
              have hbA := hb.alloc hb.size (.cells #[.int .i64 y.x, .int .i64 y.z, .int .i64 y.y, .int .i64 y.d] 78)
              obtain ⟨yx, yz, yy, yd⟩ := y
              simp only at q0 q1 q2 q3 hA hbA
              clear hc hy hym hb
              go_wp2_with fail
              clear q0 q1 q2 q3
              generalize hW3 : wr.alloc (.cells #[.int .i64 yx, .int .i64 yz, .int .i64 yy, .int .i64 yd] 78) = W3 at hA hbA ⊢
              generalize wr.heap.size = T at hA ⊢
              clear hW3
              go_loopw [169] (fun s169 wr => ∃ j : Nat, s169 = .int .i64 j ∧ j ≤ n2 ∧ Below w5.heap.size w5 wr ∧ wr.heap[T]? = some (.cells #[.int .i64 yx, .int .i64 yz, .int .i64 yy, .int .i64 yd] 78 (0, 0))) (fun s169 _ => n2 - (intOf s169).toNat)
              case atStart => exact ⟨0, rfl, Nat.zero_le _, hbA, hA⟩
              case round =>
                clear hA hbA
                obtain ⟨j, rfl, hj, hb, hA⟩ := hrel
                by_cases hlt2 : j < n2
                · have hltI2 : (j : Int) < (n2 : Int) := by omega
                  obtain ⟨x, hx⟩ : ∃ x, l2[j]? = some x := ⟨_, List.getElem?_eq_getElem (by rw [← HN2.out]; exact hlt2)⟩
                  have hxm := List.mem_of_getElem? hx
                  obtain ⟨bk2, off2, rfl, _, hc⟩ := (HS2.out.below (hb.mono (Nat.le_refl _)) (Nat.le_refl _)).at0 (by omega)
                  have q0 : wr.cell? ⟨bk2, off2 + j * 4, none⟩ = some (.int .i64 x.x) := hc j x hx 0 _ rfl
                  have q1 : wr.cell? ⟨bk2, off2 + j * 4 + 1, none⟩ = some (.int .i64 x.z) := hc j x hx 1 _ rfl
                  have q2 : wr.cell? ⟨bk2, off2 + j * 4 + 2, none⟩ = some (.int .i64 x.y) := hc j x hx 2 _ rfl
                  have q3 : wr.cell? ⟨bk2, off2 + j * 4 + 3, none⟩ = some (.int .i64 x.d) := hc j x hx 3 _ rfl
                  have hK := HK.out x hxm
                  have hA2 := halloc hA (.cells #[.int .i64 x.x, .int .i64 x.z, .int .i64 x.y, .int .i64 x.d] 78)
                  have hbA := hb.alloc hb.size (.cells #[.int .i64 x.x, .int .i64 x.z, .int .i64 x.y, .int .i64 x.d] 78)
                  obtain ⟨xx, xz, xy, xd⟩ := x
                  simp only at q0 q1 q2 q3 hA2 hbA
                  have r0 := hcell (k := 0) (v := .int .i64 yx) hA2 rfl
                  have r1 := hcell (k := 1) (v := .int .i64 yz) hA2 rfl
                  have r2 := hcell (k := 2) (v := .int .i64 yy) hA2 rfl
                  have r3 := hcell (k := 3) (v := .int .i64 yd) hA2 rfl
                  have HA2 := Lib.hid hA2
                  have HBA := Lib.hid hbA
                  clear hc hx hxm hb hA hA2 hbA
                  rcases first_diff ⟨yx, yz, yy, yd⟩ ⟨xx, xz, xy, xd⟩ with h | h | ⟨h0, h⟩ | ⟨h0, h1, h⟩ | ⟨h0, h1, h2, h⟩
                  · obtain ⟨m1, m2⟩ := hK h
                    obtain ⟨rfl, rfl, rfl, rfl⟩ := (by simpa using h : yx = xx ∧ yz = xz ∧ yy = xy ∧ yd = xd)
                    have m3 : ¬ hi < p := by omega
                    have m4 : ¬ q < lo := by omega
                    clear hK h m1 m2
                    go_wp2
                    go_roundw
                    case rel => exact ⟨j + 1, by go_num, by omega, HBA.out, HA2.out⟩
                    case measure => simp [intOf]; omega
                  · clear hK
                    simp only at h
                    go_wp2
                    go_roundw
                    case rel => exact ⟨j + 1, by go_num, by omega, HBA.out, HA2.out⟩
                    case measure => simp [intOf]; omega
                  · clear hK
                    simp only at h0 h
                    subst h0
                    go_wp2
                    go_roundw
                    case rel => exact ⟨j + 1, by go_num, by omega, HBA.out, HA2.out⟩
                    case measure => simp [intOf]; omega
                  · clear hK
                    simp only at h0 h1 h
                    subst h0 h1
                    go_wp2
                    go_roundw
                    case rel => exact ⟨j + 1, by go_num, by omega, HBA.out, HA2.out⟩
                    case measure => simp [intOf]; omega
                  · clear hK
                    simp only at h0 h1 h2 h
                    subst h0 h1 h2
                    go_wp2
                    go_roundw
                    case rel => exact ⟨j + 1, by go_num, by omega, HBA.out, HA2.out⟩
                    case measure => simp [intOf]; omega
                · obtain rfl : j = n2 := by omega
                  clear hA
                  go_wp2
                  go_roundw
                  case rel => exact ⟨k + 1, by go_num, by omega, hb⟩
                  case measure => simp [intOf]; omega
            · obtain rfl : k = n1 := by omega
              have hB6 := hB5.trans (hb.mono hB5.size)
              clear hb hB5
              go_wp2_with fail
              refine (WK.out _).mono ?_
              rintro e w7 ⟨rfl, hb7⟩
              have hB7 := hB6.trans (hb7.mono hB6.size)
              clear hB6 hb7
              go_wp2
              go_ret
              exact ⟨rfl, hB7⟩
      · have hg' : (g != 0) = true := by simpa using hg
        clear HB2 HN2 HR2 HM K1 K2 hI3
        go_wp2_with fail
        refine (WK.out _).mono ?_
        rintro e w4 ⟨rfl, hb4⟩
        have hB4 := hB3.trans (hb4.mono hB3.size)
        clear hB3 hb4
        go_wp2
        go_ret
        exact ⟨rfl, hB4⟩
  · obtain ⟨e, hee⟩ : ∃ e, e = (overE a b c x z).2.2.2 := ⟨_, rfl⟩
    have hr := overE_bad he
    rw [← hee] at hr he
    rw [hr] at OV
    simp only at OV
    have he' : (e != 0) = true := by simpa using he
    clear hr hee hI
    obtain ⟨ax, ay, az⟩ := a
    obtain ⟨bx, by_, bz⟩ := b
    obtain ⟨cx, cy, cz⟩ := c
    go_enter Try.func12, Try.ntmps12
    go_wp2_with fail
    refine (OV.out _).mono ?_
    rintro e w1 ⟨rfl, hb1⟩
    have hB1 := hB.trans (hb1.mono hB.size)
    clear hB hb1
    go_wp2_with fail
    refine (WK.out _).mono ?_
    rintro e w3 ⟨rfl, hb3⟩
    have hB3 := hB1.trans (hb3.mono hB1.size)
    clear hB1 hb3
    go_wp2
    go_ret
    exact ⟨rfl, hB3⟩
end Go.Proofs.Ytndjljefppbmcaa
