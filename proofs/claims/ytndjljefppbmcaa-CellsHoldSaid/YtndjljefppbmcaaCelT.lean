/- Walk: the law CellsTurned. -/
import Derived.Test.YtndjljefppbmcaaCelR
namespace Go.Proofs.Ytndjljefppbmcaa
open Go.RowKit

theorem any_take_succ {α : Type} (f : α → Bool) {l : List α} {k : Nat} {x : α} (h : l[k]? = some x) : (l.take (k + 1)).any f = ((l.take k).any f || f x) := by
  rw [List.take_add_one, h, Option.toList_some, List.any_append]
  simp
section
variable {a b : Pt} {l : List Cel} (ha : pointOk a = true) (hb : pointOk b = true) (hl : CelAt a b l)
include ha hb hl
theorem first_holds : l.any (fun c => decide (holdsC c a)) = true := by
  obtain ⟨c, hc, h⟩ := cel_has ha hb hl (r := ⟨0, 1⟩) (by decide) (by decide) (by decide)
  have h2 := (at_whole (u := 0) (v := 0) (by decide) (by decide) (by decide) (by simp) (by simp)).1 ((cel_at ha hb hl hc (r := ⟨0, 1⟩) (by decide)).1 h)
  rw [List.any_eq_true]
  refine ⟨c, hc, ?_⟩
  rw [decide_eq_true_eq]
  unfold holdsC
  omega
theorem last_holds : l.any (fun c => decide (holdsC c b)) = true := by
  obtain ⟨c, hc, h⟩ := cel_has ha hb hl (r := ⟨1, 1⟩) (by decide) (by decide) (by decide)
  have h2 := (at_whole (u := b.x - a.x) (v := b.z - a.z) (by decide) (by decide) (by decide) (by simp) (by simp)).1 ((cel_at ha hb hl hc (r := ⟨1, 1⟩) (by decide)).1 h)
  rw [List.any_eq_true]
  refine ⟨c, hc, ?_⟩
  rw [decide_eq_true_eq]
  unfold holdsC
  omega
theorem shares_any {i : Nat} {c : Cel} (hi : l[i]? = some c) (h0 : 0 < i) : (l.take i).any (shareC c) = true := by
  obtain ⟨j, d, hj, hd, h1, h2⟩ := cel_shares ha hb hl hi h0
  rw [List.any_eq_true]
  refine ⟨d, ?_, by simp [shareC, h1, h2]⟩
  rw [List.mem_take_iff_getElem]
  obtain ⟨hlt, e⟩ := List.getElem?_eq_some_iff.1 hd
  exact ⟨j, by omega, e⟩
end
theorem there_any {a b : Pt} {l m : List Cel} (hl : CelAt a b l) (hm : CelAt b a m) {c : Cel} (hc : c ∈ l) : m.any (fun d => (c.x == d.x) && (c.z == d.z)) = true := by
  obtain ⟨d, hd, h1, h2⟩ := (cel_turn hl hm).2 c hc
  rw [List.any_eq_true]
  exact ⟨d, hd, by simp [h1, h2]⟩

set_option maxRecDepth 100000 in
set_option maxHeartbeats 8000000 in
theorem cellsturned_any (a b : Pt) (w : World) :
    Calls Try.prog 7 #[ptA a, ptA b] w fun e w' => e = .returned (.bool true) ∧ Below w.heap.size w w' := by
  have hB : Below w.heap.size w ((w.alloc (.cells #[.int .i64 a.x, .int .i64 a.z] 36)).alloc (.cells #[.int .i64 b.x, .int .i64 b.z] 36)) := ((Below.refl _ _).alloc (Nat.le_refl _) _).alloc (by simp) _
  have hA := halloc (World.alloc_heap_new w (.cells #[.int .i64 a.x, .int .i64 a.z] 36)) (.cells #[.int .i64 b.x, .int .i64 b.z] 36)
  have hBb := World.alloc_heap_new (w.alloc (.cells #[.int .i64 a.x, .int .i64 a.z] 36)) (.cells #[.int .i64 b.x, .int .i64 b.z] 36)
  simp only [World.size_alloc] at hBb
  by_cases hab : (pointOk a && pointOk b) = true
  · rw [Bool.and_eq_true] at hab
    obtain ⟨ha, hb⟩ := hab
    have C1 := Lib.hid (fun W => cells_ok a b W ha hb)
    have C2 := Lib.hid (fun W => cells_ok b a W hb ha)
    obtain ⟨ax, az⟩ := a
    obtain ⟨bx, bz⟩ := b
    simp only at hB hA hBb
    have Ha := Lib.hid ha
    have Hb := Lib.hid hb
    clear ha hb
    go_enter Try.func7, Try.ntmps7
    go_wp2_with fail
    refine (C1.out _).mono ?_
    rintro e w1 ⟨ad, n, c, l, rfl, hsl, hn, hat, hb1⟩
    have hB1 := hB.trans (hb1.mono hB.size)
    have hA1 := hkeep hb1 hA
    have hBb1 := hkeep hb1 hBb
    clear hB hA hBb hb1 C1
    have Hsl := Lib.hid hsl
    have Hat := Lib.hid hat
    have hle := hsl.le
    have hmax := hsl.max
    have Hl := Lib.hid hsl.len
    clear hsl hat
    have k1 := hcell (k := 0) (v := .int .i64 ax) hA1 rfl
    have k2 := hcell (k := 1) (v := .int .i64 az) hA1 rfl
    have k3 := hcell (k := 0) (v := .int .i64 bx) hBb1 rfl
    have k4 := hcell (k := 1) (v := .int .i64 bz) hBb1 rfl
    go_wp2_with fail
    refine (C2.out _).mono ?_
    rintro e W ⟨ad2, n2, c2, m, rfl, hsl, _, hat, hb1⟩
    have hB2 := hB1.trans (hb1.mono hB1.size)
    have hA2 := hkeep hb1 hA1
    have hBb2 := hkeep hb1 hBb1
    have Hsl2 := Lib.hid (Hsl.out.below hb1 (Nat.le_refl _))
    have Hsm2 := Lib.hid hsl
    have Hat2 := Lib.hid hat
    obtain rfl : n = n2 := by rw [← Hl.out, ← hsl.len]; exact (cel_turn Hat.out hat).1
    have hle2 := hsl.le
    have hmax2 := hsl.max
    have Hm := Lib.hid hsl.len
    clear hB1 hA1 hBb1 hb1 C2 k1 k2 k3 k4 Hsl hsl hat
    have hnn : ((n : Int) != (n : Int)) = false := by simp
    go_wp2_with fail
    go_loopw [9, 10, 51] (fun f g i wr => ∃ k : Nat, i = .int .i64 k ∧ k ≤ n ∧ f = .bool ((l.take k).any (fun c => decide (holdsC c ⟨ax, az⟩))) ∧ g = .bool ((l.take k).any (fun c => decide (holdsC c ⟨bx, bz⟩))) ∧ Below W.heap.size W wr) (fun _ _ i _ => n - (intOf i).toNat)
    case atStart => exact ⟨0, rfl, Nat.zero_le _, rfl, rfl, Below.refl _ _⟩
    case round =>
      obtain ⟨k, rfl, hk, rfl, rfl, hb⟩ := hrel
      by_cases hlt : k < n
      · obtain ⟨cc, hck⟩ : ∃ x, l[k]? = some x := ⟨_, List.getElem?_eq_getElem (by rw [Hl.out]; exact hlt)⟩
        have hcm : cc ∈ l := List.mem_of_getElem? hck
        obtain ⟨f1, f2, f3, f4, f5, f6, f7, f8, f9, f10, f11⟩ := cel_facts Ha.out Hb.out Hat.out hcm
        have hltI : (k : Int) < (n : Int) := by omega
        have hA3 := hkeep hb hA2
        have hBb3 := hkeep hb hBb2
        have hslr := Hsl2.out.below hb (Nat.le_refl _)
        obtain ⟨bb, off, rfl, hbl, hcell⟩ := hslr.at0 (by omega)
        obtain ⟨c0, c1, c2, c3, c4, c5⟩ := SlCe.cells hcell hck
        have HF := Lib.hid (any_take_succ (fun c => decide (holdsC c ⟨ax, az⟩)) hck)
        have HG := Lib.hid (any_take_succ (fun c => decide (holdsC c ⟨bx, bz⟩)) hck)
        have SH := Lib.hid (fun d (hd : d ∈ l) W => share_any ⟨ax, az⟩ ⟨bx, bz⟩ l cc d W Ha.out Hb.out Hat.out hcm hd)
        have HA := Lib.hid (fun W => holds_any cc ⟨ax, az⟩ W ⟨f8, f9⟩ ⟨f10, f11⟩)
        have HBh := Lib.hid (fun W => holds_any cc ⟨bx, bz⟩ W ⟨f8, f9⟩ ⟨f10, f11⟩)
        have HT : Hid (m.any (fun d => (cc.x == d.x) && (cc.z == d.z)) = true) := there_any Hat.out Hat2.out hcm
        have HS : Hid ((decide (k = 0) || (l.take k).any (shareC cc)) = true) := by
          show _ = _
          by_cases h0 : k = 0
          · simp [h0]
          · rw [shares_any Ha.out Hb.out Hat.out hck (by omega)]; simp
        generalize hf : (l.take k).any (fun c => decide (holdsC c ⟨ax, az⟩)) = ff at HF ⊢
        generalize hg : (l.take k).any (fun c => decide (holdsC c ⟨bx, bz⟩)) = gg at HG ⊢
        generalize hh1 : decide (holdsC cc ⟨ax, az⟩) = h1 at HF HA
        generalize hh2 : decide (holdsC cc ⟨bx, bz⟩) = h2 at HG HBh
        clear hf hg hh1 hh2
        generalize hsc : shareC cc = shc at SH HS
        clear hsc
        obtain ⟨cx, cz, ⟨cpn, cpd⟩, ⟨cqn, cqd⟩⟩ := cc
        simp only at c0 c1 c2 c3 c4 c5 HT
        clear f1 f2 f3 f4 f5 f6 f7 f8 f9 f10 f11 hcm hck hcell hslr
        have hs3 := hblt hBb3
        have hs3b := hblt hA3
        go_wp2_with fail
        have hA4 := halloc hA3 (.cells #[.int .i64 cx, .int .i64 cz, .int .i64 cpn, .int .i64 cpd, .int .i64 cqn, .int .i64 cqd] 43)
        have hBb4 := halloc hBb3 (.cells #[.int .i64 cx, .int .i64 cz, .int .i64 cpn, .int .i64 cpd, .int .i64 cqn, .int .i64 cqd] 43)
        have hC4 := World.alloc_heap_new wr (.cells #[.int .i64 cx, .int .i64 cz, .int .i64 cpn, .int .i64 cpd, .int .i64 cqn, .int .i64 cqd] 43)
        have hb4 := hb.alloc hb.size (.cells #[.int .i64 cx, .int .i64 cz, .int .i64 cpn, .int .i64 cpd, .int .i64 cqn, .int .i64 cqd] 43)
        generalize (wr.alloc (.cells #[.int .i64 cx, .int .i64 cz, .int .i64 cpn, .int .i64 cpd, .int .i64 cqn, .int .i64 cqd] 43)) = W1 at hA4 hBb4 hC4 hb4 ⊢
        generalize wr.heap.size = pc at hC4 ⊢
        clear hA3 hBb3 hb c0 c1 c2 c3 c4 c5
        go_loopw [13, 58] (fun t i wr => ∃ j : Nat, i = .int .i64 j ∧ j ≤ n ∧ t = .bool ((m.take j).any (fun d => (cx == d.x) && (cz == d.z))) ∧ Below W1.heap.size W1 wr) (fun _ i _ => n - (intOf i).toNat)
        case atStart => exact ⟨0, rfl, Nat.zero_le _, rfl, Below.refl _ _⟩
        case round =>
          obtain ⟨j, rfl, hj, rfl, hbi⟩ := hrel
          by_cases hlj : j < n
          · obtain ⟨d, hdk⟩ : ∃ x, m[j]? = some x := ⟨_, List.getElem?_eq_getElem (by rw [Hm.out]; exact hlj)⟩
            have hljI : (j : Int) < (n : Int) := by omega
            have hCi := hkeep hbi hC4
            obtain ⟨bb2, off2, rfl, hbl2, hcell2⟩ := (Hsm2.out.below (hb4.trans (hbi.mono hb4.size)) (Nat.le_refl _)).at0 (by omega)
            obtain ⟨d0, d1, d2, d3, d4, d5⟩ := SlCe.cells hcell2 hdk
            have HX := Lib.hid (any_take_succ (fun d => (cx == d.x) && (cz == d.z)) hdk)
            generalize hx : (m.take j).any (fun d => (cx == d.x) && (cz == d.z)) = tt at HX ⊢
            clear hx
            obtain ⟨dx, dz, ⟨dpn, dpd⟩, ⟨dqn, dqd⟩⟩ := d
            simp only at d0 d1 d2 d3 d4 d5 HX
            have hCi' := halloc hCi (.cells #[.int .i64 dx, .int .i64 dz, .int .i64 dpn, .int .i64 dpd, .int .i64 dqn, .int .i64 dqd] 43)
            have e0 := hcell (k := 0) (v := .int .i64 cx) hCi' rfl
            have e1 := hcell (k := 1) (v := .int .i64 cz) hCi' rfl
            have hbi2 := hbi.alloc hbi.size (.cells #[.int .i64 dx, .int .i64 dz, .int .i64 dpn, .int .i64 dpd, .int .i64 dqn, .int .i64 dqd] 43)
            clear hcell2 hdk hCi hCi' hbi
            cases tt with
            | true =>
              have HX2 : Hid ((m.take (j + 1)).any (fun d => (cx == d.x) && (cz == d.z)) = true) := by show _ = _; rw [HX.out]; rfl
              clear HX
              go_wp2
              go_roundw
              case rel => exact ⟨j + 1, by go_num, by omega, by rw [HX2.out], hbi2⟩
              case measure => simp [intOf]; omega
            | false =>
              by_cases hx1 : cx = dx
              · have r1 : (cx == dx) = true := by simp [hx1]
                by_cases hz1 : cz = dz
                · have r2 : (cz == dz) = true := by simp [hz1]
                  have HX2 : Hid ((m.take (j + 1)).any (fun d => (cx == d.x) && (cz == d.z)) = true) := by show _ = _; rw [HX.out, r1, r2]; rfl
                  clear HX hx1 hz1
                  go_wp2
                  go_roundw
                  case rel => exact ⟨j + 1, by go_num, by omega, by rw [HX2.out], hbi2⟩
                  case measure => simp [intOf]; omega
                · have r2 : (cz == dz) = false := by simp [hz1]
                  have HX2 : Hid ((m.take (j + 1)).any (fun d => (cx == d.x) && (cz == d.z)) = false) := by show _ = _; rw [HX.out, r1, r2]; rfl
                  clear HX hx1 hz1
                  go_wp2
                  go_roundw
                  case rel => exact ⟨j + 1, by go_num, by omega, by rw [HX2.out], hbi2⟩
                  case measure => simp [intOf]; omega
              · have r1 : (cx == dx) = false := by simp [hx1]
                have HX2 : Hid ((m.take (j + 1)).any (fun d => (cx == d.x) && (cz == d.z)) = false) := by show _ = _; rw [HX.out, r1]; rfl
                clear HX hx1
                go_wp2
                go_roundw
                case rel => exact ⟨j + 1, by go_num, by omega, by rw [HX2.out], hbi2⟩
                case measure => simp [intOf]; omega
          · obtain rfl : j = n := by omega
            have HTm : Hid ((m.take j).any (fun d => (cx == d.x) && (cz == d.z)) = true) := by show _ = _; rw [List.take_of_length_le (by rw [Hm.out]; exact Nat.le_refl _)]; exact HT.out
            rw [HTm.out]
            clear HTm HT
            have hA5 := hkeep hbi hA4
            have hBb5 := hkeep hbi hBb4
            have hC5 := hkeep hbi hC4
            have hb5 := hb4.trans (hbi.mono hb4.size)
            clear hA4 hBb4 hC4 hb4 hbi
            have hkc : (k : Int) ≤ (c : Int) := by omega
            have hk0 : ((k : Int) == 0) = decide (k = 0) := by by_cases h : k = 0 <;> simp [h]
            go_wp2_with fail
            generalize wr = W2 at hA5 hBb5 hC5 hb5 ⊢
            go_loopw [16, 84] (fun t i wr => ∃ i' : Nat, i = .int .i64 i' ∧ i' ≤ k ∧ t = .bool (decide (k = 0) || (l.take i').any shc) ∧ Below W2.heap.size W2 wr) (fun _ i _ => k - (intOf i).toNat)
            case atStart => exact ⟨0, rfl, Nat.zero_le _, by simp, Below.refl _ _⟩
            case round =>
              obtain ⟨i', rfl, hi', rfl, hbi⟩ := hrel
              have hA6 := hkeep hbi hA5
              have hBb6 := hkeep hbi hBb5
              have hC6 := hkeep hbi hC5
              by_cases hlj : i' < k
              · obtain ⟨d, hdk⟩ : ∃ x, l[i']? = some x := ⟨_, List.getElem?_eq_getElem (by rw [Hl.out]; omega)⟩
                have hljI : (i' : Int) < (k : Int) := by omega
                obtain ⟨bb2, off2, hab, hbl2, hcell2⟩ := (Hsl2.out.below (hb5.trans (hbi.mono hb5.size)) (Nat.le_refl _)).at0 (by omega)
                cases hab
                obtain ⟨d0, d1, d2, d3, d4, d5⟩ := SlCe.cells hcell2 hdk
                have HX := Lib.hid (any_take_succ shc hdk)
                have SHd := Lib.hid (SH.out d (List.mem_of_getElem? hdk))
                generalize hx : (l.take i').any shc = tt at HX ⊢
                generalize hsd : shc d = sd at HX SHd
                clear hx hsd
                obtain ⟨dx, dz, ⟨dpn, dpd⟩, ⟨dqn, dqd⟩⟩ := d
                simp only at d0 d1 d2 d3 d4 d5
                have hA7 := halloc hA6 (.cells #[.int .i64 dx, .int .i64 dz, .int .i64 dpn, .int .i64 dpd, .int .i64 dqn, .int .i64 dqd] 43)
                have hBb7 := halloc hBb6 (.cells #[.int .i64 dx, .int .i64 dz, .int .i64 dpn, .int .i64 dpd, .int .i64 dqn, .int .i64 dqd] 43)
                have hC7 := halloc hC6 (.cells #[.int .i64 dx, .int .i64 dz, .int .i64 dpn, .int .i64 dpd, .int .i64 dqn, .int .i64 dqd] 43)
                have hbi2 := hbi.alloc hbi.size (.cells #[.int .i64 dx, .int .i64 dz, .int .i64 dpn, .int .i64 dpd, .int .i64 dqn, .int .i64 dqd] 43)
                clear hcell2 hdk hA6 hBb6 hC6 hbi
                by_cases hk00 : k = 0
                · omega
                have hdk0 : decide (k = 0) = false := by simp [hk00]
                rw [hdk0, Bool.false_or]
                cases tt with
                | true =>
                  have HX2 : Hid ((l.take (i' + 1)).any shc = true) := by show _ = _; rw [HX.out]; rfl
                  clear HX hA7 hBb7 hC7 hk00 hdk0
                  go_wp2
                  go_roundw
                  case rel => exact ⟨i' + 1, by go_num, by omega, by rw [HX2.out, Bool.or_true], hbi2⟩
                  case measure => simp [intOf]; omega
                | false =>
                  have HX2 : Hid ((l.take (i' + 1)).any shc = sd) := by show _ = _; rw [HX.out]; rfl
                  have Hd0 := Lib.hid hdk0
                  have e0 := hcell (k := 0) (v := .int .i64 cx) hC7 rfl
                  have e1 := hcell (k := 1) (v := .int .i64 cz) hC7 rfl
                  have e2 := hcell (k := 2) (v := .int .i64 cpn) hC7 rfl
                  have e3 := hcell (k := 3) (v := .int .i64 cpd) hC7 rfl
                  have e4 := hcell (k := 4) (v := .int .i64 cqn) hC7 rfl
                  have e5 := hcell (k := 5) (v := .int .i64 cqd) hC7 rfl
                  have k1 := hcell (k := 0) (v := .int .i64 ax) hA7 rfl
                  have k2 := hcell (k := 1) (v := .int .i64 az) hA7 rfl
                  have k3 := hcell (k := 0) (v := .int .i64 bx) hBb7 rfl
                  have k4 := hcell (k := 1) (v := .int .i64 bz) hBb7 rfl
                  clear HX hA7 hBb7 hC7 hk00 hdk0 hk0
                  have HEnd : Hid (∀ w', Below (wr.alloc (.cells #[.int .i64 dx, .int .i64 dz, .int .i64 dpn, .int .i64 dpd, .int .i64 dqn, .int .i64 dqd] 43)).heap.size (wr.alloc (.cells #[.int .i64 dx, .int .i64 dz, .int .i64 dpn, .int .i64 dpd, .int .i64 dqn, .int .i64 dqd] 43)) w' → Below W2.heap.size W2 w') := fun w' h => hbi2.trans (h.mono hbi2.size)
                  clear hbi2
                  go_wp2_with fail
                  refine (SHd.out _).mono ?_
                  rintro e w6 ⟨rfl, hb6⟩
                  have hB6 := HEnd.out _ hb6
                  clear hb6 HEnd e0 e1 e2 e3 e4 e5 k1 k2 k3 k4 d0 d1 d2 d3 d4 d5
                  go_wp2
                  go_roundw
                  case rel => exact ⟨i' + 1, by go_num, by omega, by rw [HX2.out]; first | rfl | (rw [Hd0.out]; rfl), hB6⟩
                  case measure => simp [intOf]; omega
              · obtain rfl : i' = k := by omega
                rw [HS.out]
                have hb6 := hb5.trans (hbi.mono hb5.size)
                clear hb5 hbi hA5 hBb5 hC5 HS SH
                have e0 := hcell (k := 0) (v := .int .i64 cx) hC6 rfl
                have e1 := hcell (k := 1) (v := .int .i64 cz) hC6 rfl
                have e2 := hcell (k := 2) (v := .int .i64 cpn) hC6 rfl
                have e3 := hcell (k := 3) (v := .int .i64 cpd) hC6 rfl
                have e4 := hcell (k := 4) (v := .int .i64 cqn) hC6 rfl
                have e5 := hcell (k := 5) (v := .int .i64 cqd) hC6 rfl
                have k1 := hcell (k := 0) (v := .int .i64 ax) hA6 rfl
                have k2 := hcell (k := 1) (v := .int .i64 az) hA6 rfl
                have k3 := hcell (k := 0) (v := .int .i64 bx) hBb6 rfl
                have k4 := hcell (k := 1) (v := .int .i64 bz) hBb6 rfl
                have HF2 : Hid ((l.take (i' + 1)).any (fun c => decide (holdsC c ⟨ax, az⟩)) = (ff || h1)) := HF.out
                have HG2 : Hid ((l.take (i' + 1)).any (fun c => decide (holdsC c ⟨bx, bz⟩)) = (gg || h2)) := HG.out
                clear HF HG
                cases ff with
                | true =>
                  cases gg with
                  | true =>
                    clear e0 e1 e2 e3 e4 e5 k1 k2 k3 k4 hA6 hBb6 hC6
                    go_wp2
                    go_roundw
                    case rel => exact ⟨i' + 1, by go_num, by omega, by rw [HF2.out]; rfl, by rw [HG2.out]; rfl, hb6⟩
                    case measure => simp [intOf]; omega
                  | false =>
                    go_wp2_with fail
                    refine (HBh.out _).mono ?_
                    rintro e w7 ⟨rfl, hb7⟩
                    have hb8 := hb6.trans (hb7.mono hb6.size)
                    clear e0 e1 e2 e3 e4 e5 k1 k2 k3 k4 hA6 hBb6 hC6 hb6 hb7
                    go_wp2
                    go_roundw
                    case rel => exact ⟨i' + 1, by go_num, by omega, by rw [HF2.out]; rfl, by rw [HG2.out]; rfl, hb8⟩
                    case measure => simp [intOf]; omega
                | false =>
                  go_wp2_with fail
                  refine (HA.out _).mono ?_
                  rintro e w7 ⟨rfl, hb7⟩
                  have hb8 := hb6.trans (hb7.mono hb6.size)
                  have hBb8 := hkeep hb7 hBb6
                  have hC8 := hkeep hb7 hC6
                  clear e0 e1 e2 e3 e4 e5 k1 k2 k3 k4 hA6 hBb6 hC6 hb6 hb7
                  cases gg with
                  | true =>
                    go_wp2
                    go_roundw
                    case rel => exact ⟨i' + 1, by go_num, by omega, by rw [HF2.out]; rfl, by rw [HG2.out]; rfl, hb8⟩
                    case measure => simp [intOf]; omega
                  | false =>
                    have e0 := hcell (k := 0) (v := .int .i64 cx) hC8 rfl
                    have e1 := hcell (k := 1) (v := .int .i64 cz) hC8 rfl
                    have e2 := hcell (k := 2) (v := .int .i64 cpn) hC8 rfl
                    have e3 := hcell (k := 3) (v := .int .i64 cpd) hC8 rfl
                    have e4 := hcell (k := 4) (v := .int .i64 cqn) hC8 rfl
                    have e5 := hcell (k := 5) (v := .int .i64 cqd) hC8 rfl
                    have k3 := hcell (k := 0) (v := .int .i64 bx) hBb8 rfl
                    have k4 := hcell (k := 1) (v := .int .i64 bz) hBb8 rfl
                    go_wp2_with fail
                    refine (HBh.out _).mono ?_
                    rintro e w9 ⟨rfl, hb9⟩
                    have hb10 := hb8.trans (hb9.mono hb8.size)
                    clear e0 e1 e2 e3 e4 e5 k3 k4 hBb8 hC8 hb8 hb9
                    go_wp2
                    go_roundw
                    case rel => exact ⟨i' + 1, by go_num, by omega, by rw [HF2.out]; rfl, by rw [HG2.out]; rfl, hb10⟩
                    case measure => simp [intOf]; omega
      · obtain rfl : k = n := by omega
        have hF : Hid ((l.take k).any (fun c => decide (holdsC c ⟨ax, az⟩)) = true) := by show _ = _; rw [List.take_of_length_le (by rw [Hl.out]; exact Nat.le_refl _)]; exact first_holds Ha.out Hb.out Hat.out
        have hG : Hid ((l.take k).any (fun c => decide (holdsC c ⟨bx, bz⟩)) = true) := by show _ = _; rw [List.take_of_length_le (by rw [Hl.out]; exact Nat.le_refl _)]; exact last_holds Ha.out Hb.out Hat.out
        rw [hF.out, hG.out]
        have hB9 := hB2.trans (hb.mono hB2.size)
        clear hb hA2 hBb2 hF hG
        go_wp2_with fail
        refine (wakes03_any _).mono ?_
        rintro e w2 ⟨rfl, hb2⟩
        have hB10 := hB9.trans (hb2.mono hB9.size)
        go_wp2
        go_ret
        exact ⟨rfl, hB10⟩
  · have hab' : (pointOk a && pointOk b) = false := by simpa using hab
    have hba' : (pointOk b && pointOk a) = false := by rw [Bool.and_comm]; exact hab'
    have C1 := Lib.hid (fun W => cells_no a b W hab')
    have C2 := Lib.hid (fun W => cells_no b a W hba')
    obtain ⟨ax, az⟩ := a
    obtain ⟨bx, bz⟩ := b
    simp only at hB hA hBb
    clear hab hab' hba'
    go_enter Try.func7, Try.ntmps7
    go_wp2_with fail
    refine (C1.out _).mono ?_
    rintro e w1 ⟨ad, c, rfl, hb1⟩
    have hB1 := hB.trans (hb1.mono hB.size)
    have hA1 := hkeep hb1 hA
    have hBb1 := hkeep hb1 hBb
    have k1 := hcell (k := 0) (v := .int .i64 ax) hA1 rfl
    have k2 := hcell (k := 1) (v := .int .i64 az) hA1 rfl
    have k3 := hcell (k := 0) (v := .int .i64 bx) hBb1 rfl
    have k4 := hcell (k := 1) (v := .int .i64 bz) hBb1 rfl
    clear hA1 hBb1 hA hBb hB hb1
    go_wp2_with fail
    refine (C2.out _).mono ?_
    rintro e w2 ⟨ad2, c2, rfl, hb2⟩
    have hB2 := hB1.trans (hb2.mono hB1.size)
    clear k1 k2 k3 k4 hB1 hb2
    go_wp2_with fail
    refine (wakes03_any _).mono ?_
    rintro e w3 ⟨rfl, hb3⟩
    have hB3 := hB2.trans (hb3.mono hB2.size)
    go_wp2
    go_ret
    exact ⟨rfl, hB3⟩
end Go.Proofs.Ytndjljefppbmcaa
