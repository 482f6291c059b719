/- Walks: gathering by a closure. -/
import Derived.Test.YtdkikecjlbgmdaaGreatClpG
namespace Go.Proofs.YtdkikecjlbgmdaaGreat
open Go.RowKit
theorem filter_take_le {α : Type} (f : α → Bool) (xs : List α) (k : Nat) : ((xs.take k).filter f).length ≤ k := by
  have h1 := List.length_filter_le f (xs.take k)
  have h2 := List.length_take_le k xs
  omega
theorem filter_step {α : Type} (f : α → Bool) (l : List α) (x : α) : (l ++ (some x).toList).filter f = l.filter f ++ if f x then [x] else [] := by
  rw [List.filter_append]
  congr 1
  cases h : f x <;> simp [h]
theorem map_step {α β : Type} (f : α → β) (l : List α) (x : α) : (l ++ (some x).toList).map f = l.map f ++ [f x] := by simp

set_option maxRecDepth 100000 in
set_option maxHeartbeats 8000000 in
theorem gather_holds (t : T3) (T : Nat) (a : Option Addr) (n c : Nat) (xs : List Sp) (w : World) (hs : SlR spC 3 w a n c xs) (hT : w.heap[T]? = some (.cells (t3C t) 137 (0, 0))) (ht : tOk t) (hsm : ∀ p ∈ xs, SpSmall p) (hn : n ≤ 1000) :
    Calls Tryz.prog 100 #[.slice a n c, .func (.func 101) #[] #[.pointer (some ⟨T, 0, none⟩)]] w fun e w' => ∃ v, e = .returned v ∧ OwnR spC 3 141 w.heap.size w' v ((xs).filter (holdsT t)).length ((xs).filter (holdsT t)) ∧ Below w.heap.size w w' := by
  have Hl := Lib.hid hs.len
  have hle := hs.le
  have hmax := hs.max
  have Hs := Lib.hid hs
  have Hh := Lib.hid (And.intro hT (And.intro ht hsm))
  clear hs hT ht hsm
  obtain ⟨g, hg⟩ : ∃ g : Nat → List _, g = fun k => (xs.take k).filter (holdsT t) := ⟨_, rfl⟩
  have HF : Hid ((xs).filter (holdsT t) = g n) := by show _ = _; rw [hg]; simp only; rw [List.take_of_length_le (by rw [Hl.out]; exact Nat.le_refl _)]
  have Hg := Lib.hid hg
  have hgl : ∀ k, (g k).length ≤ k := fun k => by rw [Hg.out]; simp only; exact filter_take_le _ _ _
  rw [HF.out]
  clear hg HF
  go_enter Tryz.func100, Tryz.ntmps100
  go_wp2_with fail
  go_loopw [5, 12] (fun v i wr => ∃ k : Nat, i = .int .i64 k ∧ k ≤ n ∧ OwnR spC 3 141 w.heap.size wr v (g k).length (g k) ∧ Below w.heap.size w wr) (fun _ i _ => n - (intOf i).toNat)
  case atStart => exact ⟨0, rfl, Nat.zero_le _, by rw [Hg.out]; exact OwnR.nil _ _ _ _ _, Below.refl _ _⟩
  case round =>
    obtain ⟨k, rfl, hk, hown, hb⟩ := hrel
    by_cases hlt : k < n
    · obtain ⟨x, hxk⟩ : ∃ x, xs[k]? = some x := ⟨_, List.getElem?_eq_getElem (by rw [Hl.out]; exact hlt)⟩
      have hxm : x ∈ xs := List.mem_of_getElem? hxk
      have hltI : (k : Int) < (n : Int) := by omega
      obtain ⟨b, off, rfl, hbl, hc⟩ := (Hs.out.below hb (Nat.le_refl _)).at0 (by omega)
      have c0 : wr.cell? ⟨b, off + k * 3, none⟩ = some _ := hc k x hxk 0 _ rfl
      have c1 : wr.cell? ⟨b, off + k * 3 + 1, none⟩ = some _ := hc k x hxk 1 _ rfl
      have c2 : wr.cell? ⟨b, off + k * 3 + 2, none⟩ = some _ := hc k x hxk 2 _ rfl
      have hstep : g (k + 1) = g k ++ (if holdsT t x then [x] else []) := by
        rw [Hg.out]; simp only; rw [List.take_add_one, hxk]; rw [filter_step]
      have CL := Lib.hid (fun W (hW : Below w.heap.size w W) => cl2_any t x T W (hkeep hW Hh.out.1) Hh.out.2.1 (Hh.out.2.2 x hxm))
      have Hstep := Lib.hid hstep
      have hgk := hgl k
      generalize hgv : g k = gk at hown Hstep hgk
      generalize hgv2 : g (k + 1) = gk2 at Hstep
      clear hc hstep
      generalize holdsT t x = hf at CL Hstep
      obtain ⟨x0, x1, x2⟩ := x
      simp only at c0 c1 c2
      have hbX := hb.alloc hb.size (.cells #[.int .i64 x0, .int .i64 x1, .int .i64 x2] 141)
      have CL2 := Lib.hid (CL.out _ hbX)
      clear CL hxk hxm
      go_wp2_with fail
      refine CL2.out.mono ?_
      rintro e w3 ⟨rfl, hb3⟩
      have hB3 := hbX.trans (hb3.mono hbX.size)
      have hown1 := (hown.alloc (.cells #[.int .i64 x0, .int .i64 x1, .int .i64 x2] 141)).below hb3 (Nat.le_refl _)
      have hs3 := hB3.size
      clear hown hbX hb hb3 CL2 c0 c1 c2
      have hown3 := hown1.alloc (.cells #[.int .i64 x0, .int .i64 x1, .int .i64 x2] 141)
      have hB4 : Below w.heap.size w (w3.alloc (.cells #[.int .i64 x0, .int .i64 x1, .int .i64 x2] 141)) := hB3.alloc hs3 (.cells #[.int .i64 x0, .int .i64 x1, .int .i64 x2] 141)
      clear hown1
      cases hf with
      | true =>
        go_wp2_with (at_builtin; refine wpList_appRj (f := spC) (sz := 3) (e := 141) (B := w.heap.size) (n := gk.length) (xs := gk) _ spC_len spC_one rfl _ _ 143 rfl (.agg #[.int .i64 0, .int .i64 0, .int .i64 0]) 24 Tryz.underlying143 info_spot rfl (by decide) ⟨x0, x1, x2⟩ 141 hown3 rfl _ rfl (by simp) (by omega) (by omega) (by simp; omega) ?_; intro v' w' hown' happ)
        have hne := hown3.le
        have hB5 := hB4.trans (happ.below (B := w.heap.size) hB4.size (fun j hj => by have := hne j hj; omega))
        clear happ hown3 hB4 hB3
        go_wp2
        go_roundw
        case rel => exact ⟨k + 1, by go_num, by omega, by rw [hgv2, Hstep.out]; exact own_len hown', hB5⟩
        case measure => simp [intOf]; omega
      | false =>
        go_wp2
        go_roundw
        case rel => exact ⟨k + 1, by go_num, by omega, by rw [hgv2, Hstep.out]; simpa using own_len hown3, hB4⟩
        case measure => simp [intOf]; omega
    · obtain rfl : k = n := by omega
      have HL := own_len hown
      go_wp2
      go_ret
      exact ⟨_, rfl, HL, hb⟩

set_option maxRecDepth 100000 in
set_option maxHeartbeats 8000000 in
theorem gather_over (x0 z0 : Int) (O X Z : Nat) (a : Option Addr) (n c : Nat) (xs : List V3) (w : World) (hs : SlR vxC 3 w a n c xs) (hO : OverAt O X Z x0 z0 w) (hx0 : -1 ≤ x0 ∧ x0 ≤ 32) (hz0 : -1 ≤ z0 ∧ z0 ≤ 32) (hsm : ∀ p ∈ xs, vOk p = true) (hn : n ≤ 1000) :
    Calls Tryz.prog 103 #[.slice a n c, .func (.func 104) #[] #[.pointer (some ⟨O, 0, none⟩)]] w fun e w' => ∃ v, e = .returned v ∧ OwnR spC 3 141 w.heap.size w' v (((xs).filter (fun v : V3 => overS x0 z0 ⟨v.x, v.z, 1⟩)).map (fun v : V3 => (⟨v.x, v.z, 1⟩ : Sp))).length (((xs).filter (fun v : V3 => overS x0 z0 ⟨v.x, v.z, 1⟩)).map (fun v : V3 => (⟨v.x, v.z, 1⟩ : Sp))) ∧ Below w.heap.size w w' := by
  have Hl := Lib.hid hs.len
  have hle := hs.le
  have hmax := hs.max
  have Hs := Lib.hid hs
  have Hh := Lib.hid (And.intro hO (And.intro hx0 (And.intro hz0 hsm)))
  clear hs hO hx0 hz0 hsm
  obtain ⟨g, hg⟩ : ∃ g : Nat → List _, g = fun k => ((xs.take k).filter (fun v : V3 => overS x0 z0 ⟨v.x, v.z, 1⟩)).map (fun v : V3 => (⟨v.x, v.z, 1⟩ : Sp)) := ⟨_, rfl⟩
  have HF : Hid (((xs).filter (fun v : V3 => overS x0 z0 ⟨v.x, v.z, 1⟩)).map (fun v : V3 => (⟨v.x, v.z, 1⟩ : Sp)) = g n) := by show _ = _; rw [hg]; simp only; rw [List.take_of_length_le (by rw [Hl.out]; exact Nat.le_refl _)]
  have Hg := Lib.hid hg
  have hgl : ∀ k, (g k).length ≤ k := fun k => by rw [Hg.out]; simp only; exact by have := filter_take_le (fun v : V3 => overS x0 z0 ⟨v.x, v.z, 1⟩) xs k; rwa [List.length_map]
  rw [HF.out]
  clear hg HF
  go_enter Tryz.func103, Tryz.ntmps103
  go_wp2_with fail
  go_loopw [5, 12] (fun v i wr => ∃ k : Nat, i = .int .i64 k ∧ k ≤ n ∧ OwnR spC 3 141 w.heap.size wr v (g k).length (g k) ∧ Below w.heap.size w wr) (fun _ i _ => n - (intOf i).toNat)
  case atStart => exact ⟨0, rfl, Nat.zero_le _, by rw [Hg.out]; exact OwnR.nil _ _ _ _ _, Below.refl _ _⟩
  case round =>
    obtain ⟨k, rfl, hk, hown, hb⟩ := hrel
    by_cases hlt : k < n
    · obtain ⟨x, hxk⟩ : ∃ x, xs[k]? = some x := ⟨_, List.getElem?_eq_getElem (by rw [Hl.out]; exact hlt)⟩
      have hxm : x ∈ xs := List.mem_of_getElem? hxk
      have hltI : (k : Int) < (n : Int) := by omega
      obtain ⟨b, off, rfl, hbl, hc⟩ := (Hs.out.below hb (Nat.le_refl _)).at0 (by omega)
      have c0 : wr.cell? ⟨b, off + k * 3, none⟩ = some _ := hc k x hxk 0 _ rfl
      have c1 : wr.cell? ⟨b, off + k * 3 + 1, none⟩ = some _ := hc k x hxk 1 _ rfl
      have c2 : wr.cell? ⟨b, off + k * 3 + 2, none⟩ = some _ := hc k x hxk 2 _ rfl
      have hstep : g (k + 1) = g k ++ (if overS x0 z0 ⟨x.x, x.z, 1⟩ then [⟨x.x, x.z, 1⟩] else []) := by
        rw [Hg.out]; simp only; rw [List.take_add_one, hxk]; rw [filter_step, List.map_append]; congr 1; split <;> rfl
      have CL := Lib.hid (fun W (hW : Below w.heap.size w W) => cl3_any x0 z0 x O X Z W (Hh.out.1.below hW) Hh.out.2.1 Hh.out.2.2.1 (Hh.out.2.2.2 x hxm))
      have Hstep := Lib.hid hstep
      have hgk := hgl k
      generalize hgv : g k = gk at hown Hstep hgk
      generalize hgv2 : g (k + 1) = gk2 at Hstep
      clear hc hstep
      generalize overS x0 z0 ⟨x.x, x.z, 1⟩ = hf at CL Hstep
      obtain ⟨y0, y1, y2⟩ := x
      simp only at c0 c1 c2
      have hbX := hb.alloc hb.size (.cells #[.int .i64 y0, .int .i64 y1, .int .i64 y2] 32)
      have CL2 := Lib.hid (CL.out _ hbX)
      clear CL hxk hxm
      go_wp2_with fail
      refine CL2.out.mono ?_
      rintro e w3 ⟨rfl, hb3⟩
      have hB3 := hbX.trans (hb3.mono hbX.size)
      have hown1 := (hown.alloc (.cells #[.int .i64 y0, .int .i64 y1, .int .i64 y2] 32)).below hb3 (Nat.le_refl _)
      have hs3 := hB3.size
      clear hown hbX hb hb3 CL2 c0 c1 c2
      have hown3 := hown1.alloc (.cells #[.int .i64 y0, .int .i64 y2, .int .i64 1] 141)
      have hB4 : Below w.heap.size w (w3.alloc (.cells #[.int .i64 y0, .int .i64 y2, .int .i64 1] 141)) := hB3.alloc hs3 (.cells #[.int .i64 y0, .int .i64 y2, .int .i64 1] 141)
      clear hown1
      cases hf with
      | true =>
        go_wp2_with (at_builtin; refine wpList_appRj (f := spC) (sz := 3) (e := 141) (B := w.heap.size) (n := gk.length) (xs := gk) _ spC_len spC_one rfl _ _ 143 rfl (.agg #[.int .i64 0, .int .i64 0, .int .i64 0]) 24 Tryz.underlying143 info_spot rfl (by decide) ⟨y0, y2, 1⟩ 141 hown3 rfl _ rfl (by simp) (by omega) (by omega) (by simp; omega) ?_; intro v' w' hown' happ)
        have hne := hown3.le
        have hB5 := hB4.trans (happ.below (B := w.heap.size) hB4.size (fun j hj => by have := hne j hj; omega))
        clear happ hown3 hB4 hB3
        go_wp2
        go_roundw
        case rel => exact ⟨k + 1, by go_num, by omega, by rw [hgv2, Hstep.out]; exact own_len hown', hB5⟩
        case measure => simp [intOf]; omega
      | false =>
        go_wp2
        go_roundw
        case rel => exact ⟨k + 1, by go_num, by omega, by rw [hgv2, Hstep.out]; simpa using own_len hown3, hB4⟩
        case measure => simp [intOf]; omega
    · obtain rfl : k = n := by omega
      have HL := own_len hown
      go_wp2
      go_ret
      exact ⟨_, rfl, HL, hb⟩

set_option maxRecDepth 100000 in
set_option maxHeartbeats 8000000 in
theorem gather_lift (t : T3) (T : Nat) (a : Option Addr) (n c : Nat) (xs : List Sp) (w : World) (hs : SlR spC 3 w a n c xs) (hT : w.heap[T]? = some (.cells (t3C t) 137 (0, 0))) (ht : tOk t) (hsm : ∀ p ∈ xs, SpSmall p ∧ 0 < p.d) (hn : n ≤ 1000) :
    Calls Tryz.prog 107 #[.slice a n c, .func (.func 108) #[] #[.pointer (some ⟨T, 0, none⟩)]] w fun e w' => ∃ v, e = .returned v ∧ OwnR crC 4 70 w.heap.size w' v ((xs).map (liftT t)).length ((xs).map (liftT t)) ∧ Below w.heap.size w w' := by
  have Hl := Lib.hid hs.len
  have hle := hs.le
  have hmax := hs.max
  have Hs := Lib.hid hs
  have Hh := Lib.hid (And.intro hT (And.intro ht hsm))
  clear hs hT ht hsm
  obtain ⟨g, hg⟩ : ∃ g : Nat → List _, g = fun k => (xs.take k).map (liftT t) := ⟨_, rfl⟩
  have HF : Hid ((xs).map (liftT t) = g n) := by show _ = _; rw [hg]; simp only; rw [List.take_of_length_le (by rw [Hl.out]; exact Nat.le_refl _)]
  have Hg := Lib.hid hg
  have hgl : ∀ k, (g k).length ≤ k := fun k => by rw [Hg.out]; simp only; exact by rw [List.length_map]; exact List.length_take_le _ _
  rw [HF.out]
  clear hg HF
  go_enter Tryz.func107, Tryz.ntmps107
  go_wp2_with fail
  go_loopw [5, 12] (fun v i wr => ∃ k : Nat, i = .int .i64 k ∧ k ≤ n ∧ OwnR crC 4 70 w.heap.size wr v (g k).length (g k) ∧ Below w.heap.size w wr) (fun _ i _ => n - (intOf i).toNat)
  case atStart => exact ⟨0, rfl, Nat.zero_le _, by rw [Hg.out]; exact OwnR.nil _ _ _ _ _, Below.refl _ _⟩
  case round =>
    obtain ⟨k, rfl, hk, hown, hb⟩ := hrel
    by_cases hlt : k < n
    · obtain ⟨x, hxk⟩ : ∃ x, xs[k]? = some x := ⟨_, List.getElem?_eq_getElem (by rw [Hl.out]; exact hlt)⟩
      have hxm : x ∈ xs := List.mem_of_getElem? hxk
      have hltI : (k : Int) < (n : Int) := by omega
      obtain ⟨b, off, rfl, hbl, hc⟩ := (Hs.out.below hb (Nat.le_refl _)).at0 (by omega)
      have c0 : wr.cell? ⟨b, off + k * 3, none⟩ = some _ := hc k x hxk 0 _ rfl
      have c1 : wr.cell? ⟨b, off + k * 3 + 1, none⟩ = some _ := hc k x hxk 1 _ rfl
      have c2 : wr.cell? ⟨b, off + k * 3 + 2, none⟩ = some _ := hc k x hxk 2 _ rfl
      have hstep : g (k + 1) = g k ++ [liftT t x] := by
        rw [Hg.out]; simp only; rw [List.take_add_one, hxk]; rw [map_step]
      have CL := Lib.hid (fun W (hW : Below w.heap.size w W) => cl4_any t x T W (hkeep hW Hh.out.1) Hh.out.2.1 (Hh.out.2.2 x hxm).1 (Hh.out.2.2 x hxm).2)
      have Hstep := Lib.hid hstep
      have hgk := hgl k
      generalize hgv : g k = gk at hown Hstep hgk
      generalize hgv2 : g (k + 1) = gk2 at Hstep
      clear hc hstep
      generalize liftT t x = lf at CL Hstep
      obtain ⟨l0, l1, l2, l3⟩ := lf
      obtain ⟨x0, x1, x2⟩ := x
      simp only at c0 c1 c2
      have hbX := hb.alloc hb.size (.cells #[.int .i64 x0, .int .i64 x1, .int .i64 x2] 141)
      have CL2 := Lib.hid (CL.out _ hbX)
      clear CL hxk hxm
      go_wp2_with fail
      refine CL2.out.mono ?_
      rintro e w3 ⟨rfl, hb3⟩
      have hB3 := hbX.trans (hb3.mono hbX.size)
      have hown1 := (hown.alloc (.cells #[.int .i64 x0, .int .i64 x1, .int .i64 x2] 141)).below hb3 (Nat.le_refl _)
      have hs3 := hB3.size
      clear hown hbX hb hb3 CL2 c0 c1 c2
      have hown3 := hown1.alloc (.cells #[.int .i64 l0, .int .i64 l1, .int .i64 l2, .int .i64 l3] 70)
      have hB4 : Below w.heap.size w (w3.alloc (.cells #[.int .i64 l0, .int .i64 l1, .int .i64 l2, .int .i64 l3] 70)) := hB3.alloc hs3 (.cells #[.int .i64 l0, .int .i64 l1, .int .i64 l2, .int .i64 l3] 70)
      clear hown1
      go_wp2_with (at_builtin; refine wpList_appRj (f := crC) (sz := 4) (e := 70) (B := w.heap.size) (n := gk.length) (xs := gk) _ crC_len crC_one rfl _ _ 64 rfl (.agg #[.int .i64 0, .int .i64 0, .int .i64 0, .int .i64 0]) 32 Tryz.underlying64 info_corner rfl (by decide) ⟨l0, l1, l2, l3⟩ 70 hown3 rfl _ rfl (by simp) (by omega) (by omega) (by simp; omega) ?_; intro v' w' hown' happ)
      have hne := hown3.le
      have hB5 := hB4.trans (happ.below (B := w.heap.size) hB4.size (fun j hj => by have := hne j hj; omega))
      clear happ hown3 hB4 hB3
      go_wp2
      go_roundw
      case rel => exact ⟨k + 1, by go_num, by omega, by rw [hgv2, Hstep.out]; exact own_len hown', hB5⟩
      case measure => simp [intOf]; omega
    · obtain rfl : k = n := by omega
      have HL := own_len hown
      go_wp2
      go_ret
      exact ⟨_, rfl, HL, hb⟩
end Go.Proofs.YtdkikecjlbgmdaaGreat
