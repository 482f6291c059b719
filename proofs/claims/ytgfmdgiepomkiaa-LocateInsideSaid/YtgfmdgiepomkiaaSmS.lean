/- Walk: the library's sort at the doors across tiles. -/
import Derived.Test.YtgfmdgiepomkiaaKe
namespace Go.Proofs.Ytgfmdgiepomkiaa
open Go.RowKit Go.Sort

set_option maxHeartbeats 1000000 in
theorem cmpsm_any (x y : Dr) (w : World) :
    Calls Try.prog 124 #[.agg #[.int .i64 x.a, .int .i64 x.b, .int .i64 x.x0, .int .i64 x.z0, .int .i64 x.x1, .int .i64 x.z1], .agg #[.int .i64 y.a, .int .i64 y.b, .int .i64 y.x0, .int .i64 y.z0, .int .i64 y.x1, .int .i64 y.z1]] w fun e w' => e = .returned (.int .i64 (cmpD x y)) ∧ ∃ q os', w' = grow (w.drewN q) os' := by
  refine Calls.mono (R := fun e w' => e = .returned (.int .i64 (cmpD x y)) ∧ Below w.heap.size w w' ∧ w.drawn ≤ w'.drawn) ?_ (fun e w' h => ⟨h.1, grown_of h.2.1 h.2.2⟩)
  have LS := Lib.hid (fun W => dless_any x y W)
  have LT := Lib.hid (fun W => dless_any y x W)
  have HC : Hid (cmpD x y = if decide (ltD x y) then -1 else if decide (ltD y x) then 1 else 0) := by show _ = _; unfold cmpD; simp
  generalize cmpD x y = c at HC ⊢
  generalize decide (ltD x y) = r at LS HC
  generalize decide (ltD y x) = s at LT HC
  have hB : Below w.heap.size w ((w.alloc (.cells #[.int .i64 x.a, .int .i64 x.b, .int .i64 x.x0, .int .i64 x.z0, .int .i64 x.x1, .int .i64 x.z1] 96 (0, 0))).alloc (.cells #[.int .i64 y.a, .int .i64 y.b, .int .i64 y.x0, .int .i64 y.z0, .int .i64 y.x1, .int .i64 y.z1] 96 (0, 0))) := ((Below.refl _ _).alloc (Nat.le_refl _) _).alloc (by simp) _
  have hX := halloc (World.alloc_heap_new w (.cells #[.int .i64 x.a, .int .i64 x.b, .int .i64 x.x0, .int .i64 x.z0, .int .i64 x.x1, .int .i64 x.z1] 96 (0, 0))) (.cells #[.int .i64 y.a, .int .i64 y.b, .int .i64 y.x0, .int .i64 y.z0, .int .i64 y.x1, .int .i64 y.z1] 96 (0, 0))
  have hY := World.alloc_heap_new (w.alloc (.cells #[.int .i64 x.a, .int .i64 x.b, .int .i64 x.x0, .int .i64 x.z0, .int .i64 x.x1, .int .i64 x.z1] 96 (0, 0))) (.cells #[.int .i64 y.a, .int .i64 y.b, .int .i64 y.x0, .int .i64 y.z0, .int .i64 y.x1, .int .i64 y.z1] 96 (0, 0))
  have hdr : w.drawn ≤ ((w.alloc (.cells #[.int .i64 x.a, .int .i64 x.b, .int .i64 x.x0, .int .i64 x.z0, .int .i64 x.x1, .int .i64 x.z1] 96 (0, 0))).alloc (.cells #[.int .i64 y.a, .int .i64 y.b, .int .i64 y.x0, .int .i64 y.z0, .int .i64 y.x1, .int .i64 y.z1] 96 (0, 0))).drawn := Nat.le_refl _
  obtain ⟨W1, hW1⟩ : ∃ W, W = ((w.alloc (.cells #[.int .i64 x.a, .int .i64 x.b, .int .i64 x.x0, .int .i64 x.z0, .int .i64 x.x1, .int .i64 x.z1] 96 (0, 0))).alloc (.cells #[.int .i64 y.a, .int .i64 y.b, .int .i64 y.x0, .int .i64 y.z0, .int .i64 y.x1, .int .i64 y.z1] 96 (0, 0))) := ⟨_, rfl⟩
  rw [World.size_alloc] at hY
  rw [← hW1] at hB hX hY hdr
  have x0 := hcell (k := 0) (v := .int .i64 x.a) hX rfl
  have x1 := hcell (k := 1) (v := .int .i64 x.b) hX rfl
  have x2 := hcell (k := 2) (v := .int .i64 x.x0) hX rfl
  have x3 := hcell (k := 3) (v := .int .i64 x.z0) hX rfl
  have x4 := hcell (k := 4) (v := .int .i64 x.x1) hX rfl
  have x5 := hcell (k := 5) (v := .int .i64 x.z1) hX rfl
  have y0 := hcell (k := 0) (v := .int .i64 y.a) hY rfl
  have y1 := hcell (k := 1) (v := .int .i64 y.b) hY rfl
  have y2 := hcell (k := 2) (v := .int .i64 y.x0) hY rfl
  have y3 := hcell (k := 3) (v := .int .i64 y.z0) hY rfl
  have y4 := hcell (k := 4) (v := .int .i64 y.x1) hY rfl
  have y5 := hcell (k := 5) (v := .int .i64 y.z1) hY rfl
  go_enter Try.func124, Try.ntmps124
  go_upto_region 1 with fail
  rw [← hW1]
  clear hW1
  go_wp2_with fail
  refine (LS.out _).mono ?_
  rintro e w1 ⟨rfl, hb1, hd1⟩
  have hB1 := hB.trans (hb1.mono hB.size)
  have hD1 := Nat.le_trans hdr hd1
  have hX1 := hkeep hb1 hX
  have hY1 := hkeep hb1 hY
  clear x0 x1 x2 x3 x4 x5 y0 y1 y2 y3 y4 y5 hX hY
  have x0 := hcell (k := 0) (v := .int .i64 x.a) hX1 rfl
  have x1 := hcell (k := 1) (v := .int .i64 x.b) hX1 rfl
  have x2 := hcell (k := 2) (v := .int .i64 x.x0) hX1 rfl
  have x3 := hcell (k := 3) (v := .int .i64 x.z0) hX1 rfl
  have x4 := hcell (k := 4) (v := .int .i64 x.x1) hX1 rfl
  have x5 := hcell (k := 5) (v := .int .i64 x.z1) hX1 rfl
  have y0 := hcell (k := 0) (v := .int .i64 y.a) hY1 rfl
  have y1 := hcell (k := 1) (v := .int .i64 y.b) hY1 rfl
  have y2 := hcell (k := 2) (v := .int .i64 y.x0) hY1 rfl
  have y3 := hcell (k := 3) (v := .int .i64 y.z0) hY1 rfl
  have y4 := hcell (k := 4) (v := .int .i64 y.x1) hY1 rfl
  have y5 := hcell (k := 5) (v := .int .i64 y.z1) hY1 rfl
  clear hX1 hY1
  cases r with
  | true =>
    clear x0 x1 x2 x3 x4 x5 y0 y1 y2 y3 y4 y5
    go_wp2
    go_ret
    exact ⟨ret_int (by rw [HC.out]; rfl), hB1, hD1⟩
  | false =>
    go_wp2_with fail
    refine (LT.out _).mono ?_
    rintro e w2 ⟨rfl, hb2, hd2⟩
    have hB2 := hB1.trans (hb2.mono hB1.size)
    have hD2 := Nat.le_trans hD1 hd2
    clear x0 x1 x2 x3 x4 x5 y0 y1 y2 y3 y4 y5
    cases s with
    | true =>
      go_wp2
      go_ret
      exact ⟨ret_int (by rw [HC.out]; rfl), hB2, hD2⟩
    | false =>
      go_wp2
      go_ret
      exact ⟨ret_int (by rw [HC.out]; rfl), hB2, hD2⟩
theorem sortsm_any (v : Value) (n : Nat) (xs : List Dr) (B : Nat) (w : World) (hown : OwnR drC 6 96 B w v n xs) (hn : n ≤ 20000000) :
    Calls Try.prog 71 #[v, .func (.func 124) #[] #[]] w fun e w' => e = .returned (.tuple #[]) ∧ ∃ ys a c, v = .slice a n c ∧ ys.Perm xs ∧ ys.Pairwise (fun p q => ¬ ltD q p) ∧ SlR drC 6 w' a n c ys ∧ Below B w w' := by
  have hl := hown.1
  by_cases h0 : n = 0
  · subst h0
    obtain rfl := List.eq_nil_of_length_eq_zero hl
    obtain ⟨a, c, rfl, hs⟩ := OwnR.reads drC_len hown
    refine (sortdr_none a c _ w).mono ?_
    rintro e w' ⟨rfl, rfl⟩
    exact ⟨rfl, [], a, c, rfl, List.Perm.refl _, List.Pairwise.nil, hs, Below.refl _ _⟩
  rcases hown.2.2 with ⟨_, hx⟩ | ⟨g, cap, cur, rfl, hBg, hg, h1, h2, h3, h4⟩
  · exact absurd hx h0
  have hH := holdsK_of_own drC_len hown
  have hgs : g < w.heap.size := (Array.getElem?_eq_some_iff.1 hg).1
  have eg : ∀ args w, (callFunc 124 args).run Try.prog w = .ok (.enter 124 args) w := enters_of Try.func124 (by kernel_rfl) rfl
  have h := AnyQ.slices_SortFunc Try.lSortDr 6 Try.isAgg96 Try.sizeOf96 drC drC_len drC_one cmpD swoD 124 #[] g 0 cap xs.toArray w eg (fun _ _ _ _ x y => cmpsm_any x y _) hH hgs (by simp; omega)
  have hsz : xs.toArray.size = n := by simpa using hl
  rw [hsz] at h
  refine Calls.mono h ?_
  rintro e w' ⟨rfl, d', m, os, hp, hs, rfl⟩
  have hds : d'.size = xs.toArray.size := hp.1
  have hr := sortK_reads drC_len (m := m) (cap := cap) (os := os) hH hgs hds (by omega) (by simpa [maxLen] using h2)
  rw [hds, hsz] at hr
  have hp' : PermIn 0 xs.toArray.size xs.toArray d' := by rw [hsz]; exact hp
  have hs' : SortedIn (ltOf cmpD) 0 xs.toArray.size d' := by rw [hsz]; exact hs
  have q1 : d'.toList.Perm xs := by simpa using permIn_perm hp'
  have q2 := sortedIn_pairwise hds hs'
  refine ⟨rfl, d'.toList, _, _, rfl, q1, ?_, hr, sortK_below hgs hBg⟩
  exact q2.imp fun {p q} hpq => (ltDb_false q p).1 hpq
end Go.Proofs.Ytgfmdgiepomkiaa
