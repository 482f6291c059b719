/- Walks: the reference's soup: a config and a soup as bytes. -/
import Derived.Test.YtilhmlapbifbbaaSoE
namespace Go.Proofs.Ytilhmlapbifbbaa
open Go.RowKit Go.Sort
attribute [local go_sem] Instr.index

/-- v is one's own row of bytes; since w0 only the row v0, and what is new, has turned. -/
structure Wri (B : Nat) (w0 : World) (v0 : Value) (W : World) (v : Value) (n : Nat) (xs : List Int) : Prop where
  own : OwnI .u8 5 B W v n xs
  app : Appd w0 W v0 v
  le : B ≤ w0.heap.size
theorem Wri.cell {B : Nat} {w0 W : World} {v0 v : Value} {n : Nat} {xs : List Int} (h : Wri B w0 v0 W v n xs) {p : Addr} {u : Value} (hc : w0.cell? p = some u) (hne : some p.block ≠ v0.ownBlock) : W.cell? p = some u := h.app.grown.cell hc hne
theorem refput_w (x : Int) (hx : numOk x) (B : Nat) (w0 : World) (v0 : Value) (W : World) (v : Value) (n : Nat) (xs : List Int) (h : Wri B w0 v0 W v n xs) (hn : n ≤ 1099511627776) :
    Calls Try.prog 61 #[v, .int .i64 x] W fun e w' => ∃ v', e = .returned v' ∧ Wri B w0 v0 w' v' (n + (enc x.toNat).length) (xs ++ enc x.toNat) := by
  have hx0 := hx.1
  have hx1 := hx.2
  have he : ((x.toNat : Nat) : Int) = x := Int.toNat_of_nonneg hx0
  have := refput_any B v n xs x.toNat W h.own (Nat.le_trans h.le h.app.grown.size) (by omega) hn
  rw [he] at this
  exact this.mono (by rintro _ _ ⟨v', rfl, h1, h2⟩; exact ⟨v', rfl, h1, h.app.trans h2, h.le⟩)
theorem Wri.below {B : Nat} {w0 W w1 : World} {v0 v : Value} {n m : Nat} {xs ys : List Int} (h : Wri B w0 v0 W v n xs) (ho : OwnI .u8 5 B w0 v0 m ys) (hb : Below B w1 w0) : Below B w1 W := hb.trans (h.app.below h.le ho.le)
theorem Wri.start {B : Nat} {w : World} {v : Value} {n : Nat} {xs : List Int} (ho : OwnI .u8 5 B w v n xs) (hB : B ≤ w.heap.size) : Wri B w v w v n xs := ⟨ho, Appd.refl _ _, hB⟩
theorem enc_le {x : Int} (h : numOk x) : (enc x.toNat).length ≤ 9 := enc_length _ (by have := h.2; have := h.1; omega)
theorem encs_single (x : Int) : encs [x] = enc x.toNat := by simp [encs]

set_option maxRecDepth 100000 in
set_option maxHeartbeats 4000000 in
theorem refspotput_any (t : Spt) (hF : SptF t) (B : Nat) (w0 : World) (v0 : Value) (W : World) (v : Value) (n : Nat) (xs : List Int) (h : Wri B w0 v0 W v n xs) (hn : n ≤ 1099511627) :
    Calls Try.prog 117 #[v, .agg #[.int .i64 t.x, .int .i64 t.z, .int .i64 t.y]] W fun e w' => ∃ v', e = .returned v' ∧ Wri B w0 v0 w' v' (n + (encs (sptN t)).length) (xs ++ encs (sptN t)) := by
  have h0 : numOk t.x := by have := hF.1; unfold numOk; omega
  have h1 : numOk t.z := by have := hF.2.1; unfold numOk; omega
  have h2 : numOk (zig t.y : Int) := by have := zig_le4 hF.2.2; unfold numOk; omega
  have hl0 : -1099511627776 ≤ t.y := by have := hF.2.2; omega
  have hh0 : t.y ≤ 1099511627776 := by have := hF.2.2; omega
  have q0 := enc_le h0
  have q1 := enc_le h1
  have HE : Hid (encs (sptN t) = enc t.x.toNat ++ (enc t.z.toNat ++ enc (zig t.y : Int).toNat)) := by show _ = _; simp [sptN, encs]
  have hWs := h.app.grown.size
  go_enter Try.func117, Try.ntmps117
  go_wp2_with fail

  have hne := h.own.ne (Nat.le_refl _)
  have hB := h.le
  have c0 := cell_heap (k := 0) (v := .int .i64 t.x) (World.alloc_heap_new W (.cells #[.int .i64 t.x, .int .i64 t.z, .int .i64 t.y] 116)) rfl
  have c1 := cell_heap (k := 1) (v := .int .i64 t.z) (World.alloc_heap_new W (.cells #[.int .i64 t.x, .int .i64 t.z, .int .i64 t.y] 116)) rfl
  have c2 := cell_heap (k := 2) (v := .int .i64 t.y) (World.alloc_heap_new W (.cells #[.int .i64 t.x, .int .i64 t.z, .int .i64 t.y] 116)) rfl
  have hs0 : Wri B (W.alloc (.cells #[.int .i64 t.x, .int .i64 t.z, .int .i64 t.y] 116)).drew v (W.alloc (.cells #[.int .i64 t.x, .int .i64 t.z, .int .i64 t.y] 116)).drew v n xs := Wri.start (OwnI.drewN (h.own.alloc _) 1) (by simp [World.drew]; omega)
  go_region_held3 (fun WW => WW.cell? ⟨W.heap.size, 0, none⟩ = some (.int .i64 t.x) ∧ WW.cell? ⟨W.heap.size, 1, none⟩ = some (.int .i64 t.z) ∧ WW.cell? ⟨W.heap.size, 2, none⟩ = some (.int .i64 t.y))
    (first
      | assumption
      | exact ⟨c0, c1, c2⟩
      | exact ⟨hw2.cell c0 hne, hw2.cell c1 hne, hw2.cell c2 hne⟩
      | fail)
    (first
      | (go_at_call 63; refine (refzig_any _ _ (by assumption) (by assumption)).mono ?_; rintro e wz ⟨rfl, rfl⟩)
      | (go_at_call 61; refine (refput_w _ (by assumption) B _ _ _ _ _ _ (by assumption) (by omega)).mono ?_; rintro e w2 ⟨v2, rfl, hw2⟩))
  rename_i hH
  clear hH
  go_wp2
  go_ret
  refine ⟨_, rfl, ?_⟩
  have e1 : n + (encs (sptN t)).length = n + (enc t.x.toNat).length + (enc t.z.toNat).length + (enc (zig t.y : Int).toNat).length := by rw [HE.out]; simp only [List.length_append]; omega
  have e2 : xs ++ encs (sptN t) = xs ++ enc t.x.toNat ++ enc t.z.toNat ++ enc (zig t.y : Int).toNat := by rw [HE.out]; simp only [List.append_assoc]
  rw [e1, e2]
  exact ⟨hw2.own, (h.app.alloc _).trans (((Appd.refl _ _).drewN 1).trans hw2.app), h.le⟩

theorem OwnI.to {k : IntKind} {e : TypeId} {B : Nat} {w : World} {v : Value} {n : Nat} {xs : List Int} (h : OwnI k e B w v n xs) {ys : List Int} (hx : xs = ys) : OwnI k e B w v ys.length ys := by
  subst hx
  have := h.length
  subst this
  exact h
theorem Wri.fin {B : Nat} {w1 w0 W : World} {v0 v : Value} {n n' m : Nat} {xs xs' l : List Int} (h : Wri B w0.drew v0 W v n' xs') (ho : OwnI .u8 5 B w0 v0 n xs) (hb : Below B w1 w0) (hx : xs' = xs ++ encs l) (hm : l.length = m) (hl : ∀ x ∈ l, numOk x) :
    ∃ n', OwnI .u8 5 B W v n' (xs ++ encs l) ∧ n' ≤ n + 9 * m ∧ Below B w1 W := by
  refine ⟨_, h.own.to hx, ?_, h.below (OwnI.drewN ho 1) hb.drew⟩
  rw [List.length_append]
  have := ho.length
  have := encs_len hm hl
  omega
theorem refput_1 (x : Int) (hx : numOk x) (B : Nat) (w1 W : World) (v : Value) (n : Nat) (xs : List Int) (ho : OwnI .u8 5 B W v n xs) (hb : Below B w1 W) (hB : B ≤ w1.heap.size) (hn : n ≤ 1099511627776) :
    Calls Try.prog 61 #[v, .int .i64 x] W fun e w' => ∃ v' n', e = .returned v' ∧ OwnI .u8 5 B w' v' n' (xs ++ encs [x]) ∧ n' ≤ n + 9 ∧ Below B w1 w' := by
  refine (refput_w x hx B W v W v n xs (Wri.start ho (Nat.le_trans hB hb.size)) hn).mono ?_
  rintro _ w' ⟨v', rfl, h⟩
  refine ⟨v', _, rfl, h.own.to (by rw [encs_single]), ?_, h.below ho hb⟩
  rw [List.length_append, encs_single]
  have := ho.length
  have := enc_le hx
  omega
theorem Wri.ne {B : Nat} {w0 W : World} {v0 v : Value} {n : Nat} {xs : List Int} (h : Wri B w0 v0 W v n xs) {j : Nat} (hne : some j ≠ v0.ownBlock) (hj : j < w0.heap.size) : some j ≠ v.ownBlock := by
  rcases h.app.own with e | e
  · rw [e]; exact hne
  · intro he
    have := e j he.symm
    omega
theorem sptN_ok {t : Spt} (h : SptF t) : ∀ x ∈ sptN t, numOk x := by
  intro x hx
  have hz := zig_le4 h.2.2
  unfold SptF at h
  simp only [sptN, List.mem_cons, List.not_mem_nil, or_false] at hx
  unfold numOk
  omega
theorem bcB {B : Nat} {w1 W : World} {p : Addr} {v : Value} (HB : B = w1.heap.size) (h : Below B w1 W) (hc : w1.cell? p = some v) : W.cell? p = some v := ncell (HB ▸ h) hc
theorem ne_low {B : Nat} {w1 W : World} {p : Addr} {u v : Value} {n : Nat} {xs : List Int} (ho : OwnI .u8 5 B W v n xs) (HB : B = w1.heap.size) (hc : w1.cell? p = some u) : some p.block ≠ v.ownBlock := by
  intro he
  have h1 := (ho.lt _ he.symm).1
  have h2 := World.block_lt_of_cell? w1 _ hc
  omega

set_option maxRecDepth 100000 in
set_option maxHeartbeats 16000000 in
theorem refsoup_any (c : Cfg) (p q r : SHead) (s : Sou) (w : World) (hs : SoupAt w p q r s) (hF : SoupF c s) :
    Calls Try.prog 81 #[cfgV c, soupV p q r] w fun e w' => ∃ v n, e = .returned v ∧ OwnI .u8 5 w.heap.size w' v n (encs (soupN c s)) ∧ Below w.heap.size w w' := by
  obtain ⟨pa, pn, pc⟩ := p
  obtain ⟨qa, qn, qc⟩ := q
  obtain ⟨ra, rn, rc⟩ := r
  have HF := Lib.hid hF
  have Hs := Lib.hid hs
  have lt := Lib.hid hs.t.len
  have lb := Lib.hid hs.b.len
  have lh := Lib.hid hs.h.len
  clear hs hF
  unfold soupV SHead.v cfgV
  go_enter Try.func81, Try.ntmps81
  go_wp2_with fail
  refine wp_named (F := fun w0 => Below w.heap.size w w0 ∧ w0.heap[w.heap.size]? = some (.cells #[.int .i64 c.clear, .int .i64 c.climb, .int .i64 c.height, .int .i64 c.rise, .int .i64 c.run, .int .i64 c.w, .int .i64 c.d] 32 (0, 0)) ∧ w0.heap[w.heap.size + 1]? = some (.cells #[.slice pa pn pc, .slice qa qn qc, .slice ra rn rc] 71 (0, 0))) ⟨by (repeat (first | exact Below.refl _ _ | refine Below.alloc ?_ (by simp; try omega) _)),
    (Below.heap_alloc _ _ w.heap.size (by simp)).trans (World.alloc_heap_new _ _), by simpa only [World.size_alloc] using World.alloc_heap_new (w.alloc (.cells #[.int .i64 c.clear, .int .i64 c.climb, .int .i64 c.height, .int .i64 c.rise, .int .i64 c.run, .int .i64 c.w, .int .i64 c.d] 32)) (.cells #[.slice pa pn pc, .slice qa qn qc, .slice ra rn rc] 71)⟩ ?_
  rintro w1 ⟨hbw, hA, hB⟩
  have a0 := cell_heap (k := 0) (v := .int .i64 c.clear) hA rfl
  have a1 := cell_heap (k := 1) (v := .int .i64 c.climb) hA rfl
  have a2 := cell_heap (k := 2) (v := .int .i64 c.height) hA rfl
  have a3 := cell_heap (k := 3) (v := .int .i64 c.rise) hA rfl
  have a4 := cell_heap (k := 4) (v := .int .i64 c.run) hA rfl
  have a5 := cell_heap (k := 5) (v := .int .i64 c.w) hA rfl
  have a6 := cell_heap (k := 6) (v := .int .i64 c.d) hA rfl
  have b0 := cell_heap (k := 0) (v := .slice pa pn pc) hB rfl
  have b1 := cell_heap (k := 1) (v := .slice qa qn qc) hB rfl
  have b2 := cell_heap (k := 2) (v := .slice ra rn rc) hB rfl
  have Hbw := Lib.hid hbw
  have HS := Lib.hid (Hs.out.below hbw)
  clear hA hB hbw Hs
  obtain ⟨B, HB⟩ : ∃ B, Hid (B = w1.heap.size) := ⟨_, rfl⟩
  have HKc := Lib.hid (cfgN_ok HF.out.c)
  have hB1 : B ≤ w1.heap.size := by rw [HB.out]; exact Nat.le_refl _
  have hb1 : Below B w1 w1 := Below.refl _ _
  have hne : some w.heap.size ≠ (Value.slice none 0 0).ownBlock := by simp [Value.ownBlock]
  have HK4 : ∀ x ∈ [c.clear, c.climb, c.height, c.rise], numOk x := fun x hx => HKc.out x (by simp only [List.mem_cons, List.not_mem_nil, or_false] at hx; simp only [cfgN, List.mem_cons, List.not_mem_nil, or_false]; omega)
  have HK3 : ∀ x ∈ [c.run, c.w, c.d], numOk x := fun x hx => HKc.out x (by simp only [List.mem_cons, List.not_mem_nil, or_false] at hx; simp only [cfgN, List.mem_cons, List.not_mem_nil, or_false]; omega)
  have k0 : numOk c.clear := HKc.out _ (by simp [cfgN])
  have qk0 := enc_le k0
  have k1 : numOk c.climb := HKc.out _ (by simp [cfgN])
  have qk1 := enc_le k1
  have k2 : numOk c.height := HKc.out _ (by simp [cfgN])
  have qk2 := enc_le k2
  have k3 : numOk c.rise := HKc.out _ (by simp [cfgN])
  have qk3 := enc_le k3
  have k4 : numOk c.run := HKc.out _ (by simp [cfgN])
  have qk4 := enc_le k4
  have k5 : numOk c.w := HKc.out _ (by simp [cfgN])
  have qk5 := enc_le k5
  have k6 : numOk c.d := HKc.out _ (by simp [cfgN])
  have qk6 := enc_le k6
  have hs0 : Wri B w1.drew (Value.slice none 0 0) w1.drew (Value.slice none 0 0) 0 [] := Wri.start (OwnI.drewN (OwnI.nil _ _ _ _) 1) (hB1)
  go_region_held3 (fun WW => WW.cell? ⟨w.heap.size, 0, none⟩ = some (.int .i64 c.clear) ∧ WW.cell? ⟨w.heap.size, 1, none⟩ = some (.int .i64 c.climb) ∧ WW.cell? ⟨w.heap.size, 2, none⟩ = some (.int .i64 c.height) ∧ WW.cell? ⟨w.heap.size, 3, none⟩ = some (.int .i64 c.rise))
    (first
      | assumption
      | exact ⟨a0, a1, a2, a3⟩
      | exact ⟨hw2.cell a0 hne, hw2.cell a1 hne, hw2.cell a2 hne, hw2.cell a3 hne⟩
      | fail)
    (first
      | (go_at_call 61; refine (refput_w _ (by assumption) B _ _ _ _ _ _ (by assumption) (by omega)).mono ?_; rintro e w2 ⟨v2, rfl, hw2⟩))
  rename_i hH
  clear hH
  obtain ⟨n2, ho2, hn2, hb2⟩ := hw2.fin (l := [c.clear, c.climb, c.height, c.rise]) (m := 4) (OwnI.nil .u8 5 B w1) (hb1) (by simp [encs]) rfl (HK4)
  clear hw2 hs0 hne HK4
  have hB2 : B ≤ w2.heap.size := Nat.le_trans hB1 hb2.size
  have hne := ne_low ho2 HB.out a4
  have d4 := bcB HB.out hb2 a4
  have d5 := bcB HB.out hb2 a5
  have d6 := bcB HB.out hb2 a6
  clear a0 a1 a2 a3 a4 a5 a6
  obtain ⟨w3, v3, rfl, rfl⟩ : ∃ W v, W = w2 ∧ v = v2 := ⟨_, _, rfl, rfl⟩
  go_wp2_with fail
  have hs0 : Wri B w3.drew v3 w3.drew v3 n2 ([] ++ encs [c.clear, c.climb, c.height, c.rise]) := Wri.start (OwnI.drewN (ho2) 1) (hB2)
  go_region_held3 (fun WW => WW.cell? ⟨w.heap.size, 4, none⟩ = some (.int .i64 c.run) ∧ WW.cell? ⟨w.heap.size, 5, none⟩ = some (.int .i64 c.w) ∧ WW.cell? ⟨w.heap.size, 6, none⟩ = some (.int .i64 c.d))
    (first
      | assumption
      | exact ⟨d4, d5, d6⟩
      | exact ⟨hw2.cell d4 hne, hw2.cell d5 hne, hw2.cell d6 hne⟩
      | fail)
    (first
      | (go_at_call 61; refine (refput_w _ (by assumption) B _ _ _ _ _ _ (by assumption) (by omega)).mono ?_; rintro e w2 ⟨v2, rfl, hw2⟩))
  rename_i hH
  clear hH
  obtain ⟨n4, ho4, hn4, hb4⟩ := hw2.fin (l := [c.run, c.w, c.d]) (m := 3) (ho2) (hb2) (by simp [encs]) rfl (HK3)
  clear hw2 hs0 hne d4 d5 d6 ho2 hb2 HK3 k0 k1 k2 k3 k4 k5 k6 qk0 qk1 qk2 qk3 qk4 qk5 qk6 hB2
  have bs := bcB HB.out hb4 b0
  have lp := HS.out.t.max
  have lp2 := HS.out.t.le
  have lp3 : pn ≤ 200 := by have := HF.out.nt; rw [lt.out] at this; exact this
  have Hk1 : numOk (pn : Int) := by unfold numOk; omega
  obtain ⟨w3, v3, rfl, rfl⟩ : ∃ W v, W = w2 ∧ v = v2 := ⟨_, _, rfl, rfl⟩
  go_wp2_with fail
  refine (refput_1 (pn : Int) Hk1 B w1 _ _ _ _ ho4 hb4 hB1 (by omega)).mono ?_
  rintro e w5 ⟨v5, n5, rfl, ho5, hn5, hb5⟩
  have HY0 : Hid ([] ++ encs [c.clear, c.climb, c.height, c.rise] ++ encs [c.run, c.w, c.d] ++ encs [(pn : Int)] = encs (soupN0 c s)) := by show _ = _; rw [soupN0, lt.out]; simp [encs, cfgN]
  rw [HY0.out] at ho5
  have hm5 : n5 ≤ 72 := by omega
  clear HY0 bs ho4 hb4 hn4 hn5 hn2 Hk1
  have bs := bcB HB.out hb5 b0
  go_wp2_with fail
  clear bs
  go_loopw [5, 6] (fun b i wr => ∃ (k n : Nat) (ys : List Int), i = .int .i64 k ∧ k ≤ pn ∧ OwnI .u8 5 B wr b n ys ∧ n ≤ 72 + 90 * k ∧ Hid (ys = encs (soupN0 c s ++ (s.t.take k).flatMap triN)) ∧ Below B w1 wr) (fun _ i _ => pn - (intOf i).toNat)
  case atStart => exact ⟨0, n5, _, rfl, Nat.zero_le _, ho5, by omega, by simp [Hid], hb5⟩
  case round =>
  clear ho5 hb5 hm5
  obtain ⟨k, n, ys, rfl, hk, ho, hn, HY, hbr⟩ := hrel
  obtain ⟨wj, rfl⟩ : ∃ wj : World, wj = wr := ⟨_, rfl⟩
  have hBj : B ≤ wj.heap.size := Nat.le_trans hB1 hbr.size
  have bs := bcB HB.out hbr b0
  by_cases hlt : k < pn
  · have hltI : (k : Int) < (pn : Int) := by omega
    have hk0I : (0 : Int) ≤ (k : Int) := by omega
    obtain ⟨t, ht⟩ : ∃ t, s.t[k]? = some t := ⟨_, List.getElem?_eq_getElem (by rw [lt.out]; exact hlt)⟩
    have HtF := Lib.hid (HF.out.t t (mem_of_getElem? ht))
    have HKt := Lib.hid (triN_ok HtF.out)
    have HNY : Hid (encs (soupN0 c s ++ (s.t.take (k + 1)).flatMap triN) = ys ++ encs (triN t)) := by show _ = _; rw [flatMap_take_succ ht, ← List.append_assoc, encs_append, ← HY.out]
    obtain ⟨b, off, ha, _, hcell⟩ := HS.out.t.at0 (by show 0 < pn; omega)
    simp only at ha
    subst ha
    have ct := hcell k t ht
    have h0 := ct 0 _ rfl
    have h1 := ct 1 _ rfl
    have h2 := ct 2 _ rfl
    have h3 := ct 3 _ rfl
    have h4 := ct 4 _ rfl
    have h5 := ct 5 _ rfl
    have h6 := ct 6 _ rfl
    have h7 := ct 7 _ rfl
    have h8 := ct 8 _ rfl
    have h9 := ct 9 _ rfl
    simp only [Nat.add_zero] at h0
    have g0 := bcB HB.out hbr h0
    have g1 := bcB HB.out hbr h1
    have g2 := bcB HB.out hbr h2
    have g3 := bcB HB.out hbr h3
    have g4 := bcB HB.out hbr h4
    have g5 := bcB HB.out hbr h5
    have g6 := bcB HB.out hbr h6
    have g7 := bcB HB.out hbr h7
    have g8 := bcB HB.out hbr h8
    have g9 := bcB HB.out hbr h9
    clear ct hcell ht HY hlt
    have kt := HKt.out t.id (by simp [triN])
    go_wp2_with fail
    refine (refput_1 t.id kt B w1 _ _ _ _ ho hbr hB1 (by omega)).mono ?_
    rintro e w3 ⟨v3, n3, rfl, ho3, hn3, hb3⟩
    clear bs g0 g1 g2 g3 g4 g5 g6 g7 g8 g9 ho hbr kt
    have bs := bcB HB.out hb3 b0
    have g1 := bcB HB.out hb3 h1
    have g2 := bcB HB.out hb3 h2
    have g3 := bcB HB.out hb3 h3
    have g4 := bcB HB.out hb3 h4
    have g5 := bcB HB.out hb3 h5
    have g6 := bcB HB.out hb3 h6
    have g7 := bcB HB.out hb3 h7
    have g8 := bcB HB.out hb3 h8
    have g9 := bcB HB.out hb3 h9
    have hB3 : B ≤ w3.heap.size := Nat.le_trans hB1 hb3.size
    go_wp2_with fail
    refine wp_loop_rounds 4 ?_
    rw [rounds_succ]
    go_wp2_with fail
    have hFv : VtxF t.v0 := HtF.out.2.1
    have HKv := vtxN_ok hFv
    have hl0 : -1099511627776 ≤ t.v0.y := by have := hFv.2.1; omega
    have hh0 : t.v0.y ≤ 1099511627776 := by have := hFv.2.1; omega
    have hne := ho3.ne (Nat.le_refl _)
    have k0 : numOk t.v0.x := HKv _ (by simp [vtxN])
    have qk0 := enc_le k0
    have k1 : numOk (zig t.v0.y : Int) := HKv _ (by simp [vtxN])
    have qk1 := enc_le k1
    have k2 : numOk t.v0.z := HKv _ (by simp [vtxN])
    have qk2 := enc_le k2
    have c0 := cell_heap (k := 0) (v := .int .i64 t.v0.x) (World.alloc_heap_new w3 (.cells #[.int .i64 t.v0.x, .int .i64 t.v0.y, .int .i64 t.v0.z] 109)) rfl
    have c1 := cell_heap (k := 1) (v := .int .i64 t.v0.y) (World.alloc_heap_new w3 (.cells #[.int .i64 t.v0.x, .int .i64 t.v0.y, .int .i64 t.v0.z] 109)) rfl
    have c2 := cell_heap (k := 2) (v := .int .i64 t.v0.z) (World.alloc_heap_new w3 (.cells #[.int .i64 t.v0.x, .int .i64 t.v0.y, .int .i64 t.v0.z] 109)) rfl
    have hs0 : Wri B (w3.alloc (.cells #[.int .i64 t.v0.x, .int .i64 t.v0.y, .int .i64 t.v0.z] 109)).drew v3 (w3.alloc (.cells #[.int .i64 t.v0.x, .int .i64 t.v0.y, .int .i64 t.v0.z] 109)).drew v3 n3 (ys ++ encs [t.id]) := Wri.start (OwnI.drewN (ho3.alloc _) 1) (by simp [World.drew]; omega)
    go_region_held3 (fun WW => WW.cell? ⟨w3.heap.size, 0, none⟩ = some (.int .i64 t.v0.x) ∧ WW.cell? ⟨w3.heap.size, 1, none⟩ = some (.int .i64 t.v0.y) ∧ WW.cell? ⟨w3.heap.size, 2, none⟩ = some (.int .i64 t.v0.z))
      (first
        | assumption
        | exact ⟨c0, c1, c2⟩
        | exact ⟨hw2.cell c0 hne, hw2.cell c1 hne, hw2.cell c2 hne⟩
        | fail)
      (first
        | (go_at_call 63; refine (refzig_any _ _ (by assumption) (by assumption)).mono ?_; rintro e wz ⟨rfl, rfl⟩)
        | (go_at_call 61; refine (refput_w _ (by assumption) B _ _ _ _ _ _ (by assumption) (by omega)).mono ?_; rintro e w2 ⟨v2, rfl, hw2⟩))
    rename_i hH
    clear hH
    obtain ⟨n4, ho4, hn4, hb4⟩ := hw2.fin (l := (vtxN t.v0)) (m := 3) (ho3.alloc _) (hb3.alloc hB3 _) (by simp [encs, vtxN]) rfl (HKv)
    clear hw2 hs0 hne c0 c1 c2 k0 k1 k2 qk0 qk1 qk2 hl0 hh0 hFv HKv ho3 hb3 bs g1 g2 g3 g4 g5 g6 g7 g8 g9
    have bs := bcB HB.out hb4 b0
    have g1 := bcB HB.out hb4 h1
    have g2 := bcB HB.out hb4 h2
    have g3 := bcB HB.out hb4 h3
    have g4 := bcB HB.out hb4 h4
    have g5 := bcB HB.out hb4 h5
    have g6 := bcB HB.out hb4 h6
    have g7 := bcB HB.out hb4 h7
    have g8 := bcB HB.out hb4 h8
    have g9 := bcB HB.out hb4 h9
    have hB4 : B ≤ w2.heap.size := Nat.le_trans hB1 hb4.size
    obtain ⟨w4, v4, rfl, rfl⟩ : ∃ W v, W = w2 ∧ v = v2 := ⟨_, _, rfl, rfl⟩
    go_wp2_with fail
    rw [rounds_succ]
    go_wp2_with fail
    have hFv : VtxF t.v1 := HtF.out.2.2.1
    have HKv := vtxN_ok hFv
    have hl0 : -1099511627776 ≤ t.v1.y := by have := hFv.2.1; omega
    have hh0 : t.v1.y ≤ 1099511627776 := by have := hFv.2.1; omega
    have hne := ho4.ne (Nat.le_refl _)
    have k0 : numOk t.v1.x := HKv _ (by simp [vtxN])
    have qk0 := enc_le k0
    have k1 : numOk (zig t.v1.y : Int) := HKv _ (by simp [vtxN])
    have qk1 := enc_le k1
    have k2 : numOk t.v1.z := HKv _ (by simp [vtxN])
    have qk2 := enc_le k2
    have c0 := cell_heap (k := 0) (v := .int .i64 t.v1.x) (World.alloc_heap_new w4 (.cells #[.int .i64 t.v1.x, .int .i64 t.v1.y, .int .i64 t.v1.z] 109)) rfl
    have c1 := cell_heap (k := 1) (v := .int .i64 t.v1.y) (World.alloc_heap_new w4 (.cells #[.int .i64 t.v1.x, .int .i64 t.v1.y, .int .i64 t.v1.z] 109)) rfl
    have c2 := cell_heap (k := 2) (v := .int .i64 t.v1.z) (World.alloc_heap_new w4 (.cells #[.int .i64 t.v1.x, .int .i64 t.v1.y, .int .i64 t.v1.z] 109)) rfl
    have hs0 : Wri B (w4.alloc (.cells #[.int .i64 t.v1.x, .int .i64 t.v1.y, .int .i64 t.v1.z] 109)).drew v4 (w4.alloc (.cells #[.int .i64 t.v1.x, .int .i64 t.v1.y, .int .i64 t.v1.z] 109)).drew v4 n4 ((ys ++ encs [t.id]) ++ encs (vtxN t.v0)) := Wri.start (OwnI.drewN (ho4.alloc _) 1) (by simp [World.drew]; omega)
    go_region_held3 (fun WW => WW.cell? ⟨w4.heap.size, 0, none⟩ = some (.int .i64 t.v1.x) ∧ WW.cell? ⟨w4.heap.size, 1, none⟩ = some (.int .i64 t.v1.y) ∧ WW.cell? ⟨w4.heap.size, 2, none⟩ = some (.int .i64 t.v1.z))
      (first
        | assumption
        | exact ⟨c0, c1, c2⟩
        | exact ⟨hw2.cell c0 hne, hw2.cell c1 hne, hw2.cell c2 hne⟩
        | fail)
      (first
        | (go_at_call 63; refine (refzig_any _ _ (by assumption) (by assumption)).mono ?_; rintro e wz ⟨rfl, rfl⟩)
        | (go_at_call 61; refine (refput_w _ (by assumption) B _ _ _ _ _ _ (by assumption) (by omega)).mono ?_; rintro e w2 ⟨v2, rfl, hw2⟩))
    rename_i hH
    clear hH
    obtain ⟨n5, ho5, hn5, hb5⟩ := hw2.fin (l := (vtxN t.v1)) (m := 3) (ho4.alloc _) (hb4.alloc hB4 _) (by simp [encs, vtxN]) rfl (HKv)
    clear hw2 hs0 hne c0 c1 c2 k0 k1 k2 qk0 qk1 qk2 hl0 hh0 hFv HKv ho4 hb4 bs g1 g2 g3 g4 g5 g6 g7 g8 g9
    have bs := bcB HB.out hb5 b0
    have g1 := bcB HB.out hb5 h1
    have g2 := bcB HB.out hb5 h2
    have g3 := bcB HB.out hb5 h3
    have g4 := bcB HB.out hb5 h4
    have g5 := bcB HB.out hb5 h5
    have g6 := bcB HB.out hb5 h6
    have g7 := bcB HB.out hb5 h7
    have g8 := bcB HB.out hb5 h8
    have g9 := bcB HB.out hb5 h9
    have hB5 : B ≤ w2.heap.size := Nat.le_trans hB1 hb5.size
    obtain ⟨w5, v5, rfl, rfl⟩ : ∃ W v, W = w2 ∧ v = v2 := ⟨_, _, rfl, rfl⟩
    go_wp2_with fail
    rw [rounds_succ]
    go_wp2_with fail
    have hFv : VtxF t.v2 := HtF.out.2.2.2
    have HKv := vtxN_ok hFv
    have hl0 : -1099511627776 ≤ t.v2.y := by have := hFv.2.1; omega
    have hh0 : t.v2.y ≤ 1099511627776 := by have := hFv.2.1; omega
    have hne := ho5.ne (Nat.le_refl _)
    have k0 : numOk t.v2.x := HKv _ (by simp [vtxN])
    have qk0 := enc_le k0
    have k1 : numOk (zig t.v2.y : Int) := HKv _ (by simp [vtxN])
    have qk1 := enc_le k1
    have k2 : numOk t.v2.z := HKv _ (by simp [vtxN])
    have qk2 := enc_le k2
    have c0 := cell_heap (k := 0) (v := .int .i64 t.v2.x) (World.alloc_heap_new w5 (.cells #[.int .i64 t.v2.x, .int .i64 t.v2.y, .int .i64 t.v2.z] 109)) rfl
    have c1 := cell_heap (k := 1) (v := .int .i64 t.v2.y) (World.alloc_heap_new w5 (.cells #[.int .i64 t.v2.x, .int .i64 t.v2.y, .int .i64 t.v2.z] 109)) rfl
    have c2 := cell_heap (k := 2) (v := .int .i64 t.v2.z) (World.alloc_heap_new w5 (.cells #[.int .i64 t.v2.x, .int .i64 t.v2.y, .int .i64 t.v2.z] 109)) rfl
    have hs0 : Wri B (w5.alloc (.cells #[.int .i64 t.v2.x, .int .i64 t.v2.y, .int .i64 t.v2.z] 109)).drew v5 (w5.alloc (.cells #[.int .i64 t.v2.x, .int .i64 t.v2.y, .int .i64 t.v2.z] 109)).drew v5 n5 (((ys ++ encs [t.id]) ++ encs (vtxN t.v0)) ++ encs (vtxN t.v1)) := Wri.start (OwnI.drewN (ho5.alloc _) 1) (by simp [World.drew]; omega)
    go_region_held3 (fun WW => WW.cell? ⟨w5.heap.size, 0, none⟩ = some (.int .i64 t.v2.x) ∧ WW.cell? ⟨w5.heap.size, 1, none⟩ = some (.int .i64 t.v2.y) ∧ WW.cell? ⟨w5.heap.size, 2, none⟩ = some (.int .i64 t.v2.z))
      (first
        | assumption
        | exact ⟨c0, c1, c2⟩
        | exact ⟨hw2.cell c0 hne, hw2.cell c1 hne, hw2.cell c2 hne⟩
        | fail)
      (first
        | (go_at_call 63; refine (refzig_any _ _ (by assumption) (by assumption)).mono ?_; rintro e wz ⟨rfl, rfl⟩)
        | (go_at_call 61; refine (refput_w _ (by assumption) B _ _ _ _ _ _ (by assumption) (by omega)).mono ?_; rintro e w2 ⟨v2, rfl, hw2⟩))
    rename_i hH
    clear hH
    obtain ⟨n6, ho6, hn6, hb6⟩ := hw2.fin (l := (vtxN t.v2)) (m := 3) (ho5.alloc _) (hb5.alloc hB5 _) (by simp [encs, vtxN]) rfl (HKv)
    clear hw2 hs0 hne c0 c1 c2 k0 k1 k2 qk0 qk1 qk2 hl0 hh0 hFv HKv ho5 hb5 bs g1 g2 g3 g4 g5 g6 g7 g8 g9
    have bs := bcB HB.out hb6 b0
    have g1 := bcB HB.out hb6 h1
    have g2 := bcB HB.out hb6 h2
    have g3 := bcB HB.out hb6 h3
    have g4 := bcB HB.out hb6 h4
    have g5 := bcB HB.out hb6 h5
    have g6 := bcB HB.out hb6 h6
    have g7 := bcB HB.out hb6 h7
    have g8 := bcB HB.out hb6 h8
    have g9 := bcB HB.out hb6 h9
    have hB6 : B ≤ w2.heap.size := Nat.le_trans hB1 hb6.size
    obtain ⟨w6, v6, rfl, rfl⟩ : ∃ W v, W = w2 ∧ v = v2 := ⟨_, _, rfl, rfl⟩
    go_wp2_with fail
    rw [rounds_succ]
    go_wp2
    go_roundw
    case rel =>
      refine ⟨k + 1, n6, _, by go_num, by omega, ho6, by omega, ?_, hb6⟩
      show _ = _
      rw [HNY.out, triN, show t.id :: (vtxN t.v0 ++ (vtxN t.v1 ++ vtxN t.v2)) = [t.id] ++ (vtxN t.v0 ++ (vtxN t.v1 ++ vtxN t.v2)) from rfl, encs_append, encs_append, encs_append]
      simp only [List.append_assoc]
    case measure => simp [intOf]; omega
  obtain rfl : pn = k := by omega
  have hltn : ¬ (pn : Int) < (pn : Int) := by omega
  have HY1 : Hid (ys = encs (soupN0 c s ++ s.t.flatMap triN)) := by show _ = _; rw [HY.out, List.take_of_length_le (by rw [lt.out]; exact Nat.le_refl _)]
  clear HY hlt hk
  have bs' := bcB HB.out hbr b1
  have lq := HS.out.b.max
  have lq2 := HS.out.b.le
  have lq3 : qn ≤ 16 := by have := HF.out.nb; rw [lb.out] at this; exact this
  have Hk1 : numOk (qn : Int) := by unfold numOk; omega
  go_wp2_with fail
  refine (refput_1 (qn : Int) Hk1 B w1 _ _ _ _ ho hbr hB1 (by omega)).mono ?_
  rintro e w20 ⟨v20, n20, rfl, ho20, hn20, hb20⟩
  have hm20 : n20 ≤ 18081 := by omega
  have HYN : Hid (ys ++ encs [(qn : Int)] = encs (soupN1 c s)) := by show _ = _; rw [HY1.out, ← encs_append, soupN1, lb.out]
  rw [HYN.out] at ho20
  clear hn20 ho hbr Hk1 HY1 HYN hn bs bs'
  have bs := bcB HB.out hb20 b1
  go_wp2_with fail
  clear bs
  go_loopw [5, 9] (fun b i wr => ∃ (k n : Nat) (ys : List Int), i = .int .i64 k ∧ k ≤ qn ∧ OwnI .u8 5 B wr b n ys ∧ n ≤ 18081 + 72 * k ∧ Hid (ys = encs (soupN1 c s ++ (s.b.take k).flatMap bxN)) ∧ Below B w1 wr) (fun _ i _ => qn - (intOf i).toNat)
  case atStart => exact ⟨0, n20, _, rfl, Nat.zero_le _, ho20, by omega, by simp [Hid], hb20⟩
  case round =>
  clear ho20 hb20 hm20
  obtain ⟨k, n, ys, rfl, hk, ho, hn, HY, hbr⟩ := hrel
  obtain ⟨wj, rfl⟩ : ∃ wj : World, wj = wr := ⟨_, rfl⟩
  have hBj : B ≤ wj.heap.size := Nat.le_trans hB1 hbr.size
  have bs := bcB HB.out hbr b1
  by_cases hlt : k < qn
  · have hltI : (k : Int) < (qn : Int) := by omega
    have hk0I : (0 : Int) ≤ (k : Int) := by omega
    obtain ⟨t, ht⟩ : ∃ t, s.b[k]? = some t := ⟨_, List.getElem?_eq_getElem (by rw [lb.out]; exact hlt)⟩
    have HtF := Lib.hid (HF.out.b t (mem_of_getElem? ht))
    have HKt := Lib.hid (bxN_ok HtF.out)
    have HNY : Hid (encs (soupN1 c s ++ (s.b.take (k + 1)).flatMap bxN) = ys ++ encs (bxN t)) := by show _ = _; rw [flatMap_take_succ ht, ← List.append_assoc, encs_append, ← HY.out]
    obtain ⟨b, off, ha, _, hcell⟩ := HS.out.b.at0 (by show 0 < qn; omega)
    simp only at ha
    subst ha
    have ct := hcell k t ht
    have h0 := ct 0 _ rfl
    have h1 := ct 1 _ rfl
    have h2 := ct 2 _ rfl
    have h3 := ct 3 _ rfl
    have h4 := ct 4 _ rfl
    have h5 := ct 5 _ rfl
    have h6 := ct 6 _ rfl
    have h7 := ct 7 _ rfl
    simp only [Nat.add_zero] at h0
    have g0 := bcB HB.out hbr h0
    have g1 := bcB HB.out hbr h1
    have g2 := bcB HB.out hbr h2
    have g3 := bcB HB.out hbr h3
    have g4 := bcB HB.out hbr h4
    have g5 := bcB HB.out hbr h5
    have g6 := bcB HB.out hbr h6
    have g7 := bcB HB.out hbr h7
    clear ct hcell ht HY hlt
    have hl0 : -1099511627776 ≤ t.y0 := by have := HtF.out.2.2.2.2.2.1; omega
    have hh0 : t.y0 ≤ 1099511627776 := by have := HtF.out.2.2.2.2.2.1; omega
    have hl1 : -1099511627776 ≤ t.y1 := by have := HtF.out.2.2.2.2.2.2.1; omega
    have hh1 : t.y1 ≤ 1099511627776 := by have := HtF.out.2.2.2.2.2.2.1; omega
    have hne := ho.ne (Nat.le_refl _)
    have HKa : ∀ x ∈ [t.id, t.x0, t.z0, t.x1, t.z1], numOk x := fun x hx => HKt.out x (by simp only [List.mem_cons, List.not_mem_nil, or_false] at hx; simp only [bxN, List.mem_cons, List.not_mem_nil, or_false]; omega)
    have HKb : ∀ x ∈ [(zig t.y0 : Int), zig t.y1, t.area], numOk x := fun x hx => HKt.out x (by simp only [List.mem_cons, List.not_mem_nil, or_false] at hx; simp only [bxN, List.mem_cons, List.not_mem_nil, or_false]; omega)
    have k0 : numOk t.id := HKt.out _ (by simp [bxN])
    have qk0 := enc_le k0
    have k1 : numOk t.x0 := HKt.out _ (by simp [bxN])
    have qk1 := enc_le k1
    have k2 : numOk t.z0 := HKt.out _ (by simp [bxN])
    have qk2 := enc_le k2
    have k3 : numOk t.x1 := HKt.out _ (by simp [bxN])
    have qk3 := enc_le k3
    have k4 : numOk t.z1 := HKt.out _ (by simp [bxN])
    have qk4 := enc_le k4
    have k5 : numOk (zig t.y0 : Int) := HKt.out _ (by simp [bxN])
    have qk5 := enc_le k5
    have k6 : numOk (zig t.y1 : Int) := HKt.out _ (by simp [bxN])
    have qk6 := enc_le k6
    have k7 : numOk t.area := HKt.out _ (by simp [bxN])
    have qk7 := enc_le k7
    have c0 := cell_heap (k := 0) (v := .int .i64 t.id) (World.alloc_heap_new wj (.cells #[.int .i64 t.id, .int .i64 t.x0, .int .i64 t.z0, .int .i64 t.x1, .int .i64 t.z1, .int .i64 t.y0, .int .i64 t.y1, .int .i64 t.area] 114)) rfl
    have c1 := cell_heap (k := 1) (v := .int .i64 t.x0) (World.alloc_heap_new wj (.cells #[.int .i64 t.id, .int .i64 t.x0, .int .i64 t.z0, .int .i64 t.x1, .int .i64 t.z1, .int .i64 t.y0, .int .i64 t.y1, .int .i64 t.area] 114)) rfl
    have c2 := cell_heap (k := 2) (v := .int .i64 t.z0) (World.alloc_heap_new wj (.cells #[.int .i64 t.id, .int .i64 t.x0, .int .i64 t.z0, .int .i64 t.x1, .int .i64 t.z1, .int .i64 t.y0, .int .i64 t.y1, .int .i64 t.area] 114)) rfl
    have c3 := cell_heap (k := 3) (v := .int .i64 t.x1) (World.alloc_heap_new wj (.cells #[.int .i64 t.id, .int .i64 t.x0, .int .i64 t.z0, .int .i64 t.x1, .int .i64 t.z1, .int .i64 t.y0, .int .i64 t.y1, .int .i64 t.area] 114)) rfl
    have c4 := cell_heap (k := 4) (v := .int .i64 t.z1) (World.alloc_heap_new wj (.cells #[.int .i64 t.id, .int .i64 t.x0, .int .i64 t.z0, .int .i64 t.x1, .int .i64 t.z1, .int .i64 t.y0, .int .i64 t.y1, .int .i64 t.area] 114)) rfl
    have c5 := cell_heap (k := 5) (v := .int .i64 t.y0) (World.alloc_heap_new wj (.cells #[.int .i64 t.id, .int .i64 t.x0, .int .i64 t.z0, .int .i64 t.x1, .int .i64 t.z1, .int .i64 t.y0, .int .i64 t.y1, .int .i64 t.area] 114)) rfl
    have c6 := cell_heap (k := 6) (v := .int .i64 t.y1) (World.alloc_heap_new wj (.cells #[.int .i64 t.id, .int .i64 t.x0, .int .i64 t.z0, .int .i64 t.x1, .int .i64 t.z1, .int .i64 t.y0, .int .i64 t.y1, .int .i64 t.area] 114)) rfl
    have c7 := cell_heap (k := 7) (v := .int .i64 t.area) (World.alloc_heap_new wj (.cells #[.int .i64 t.id, .int .i64 t.x0, .int .i64 t.z0, .int .i64 t.x1, .int .i64 t.z1, .int .i64 t.y0, .int .i64 t.y1, .int .i64 t.area] 114)) rfl
    go_wp2_with fail
    clear bs g0 g1 g2 g3 g4 g5 g6 g7
    have hs0 : Wri B (wj.alloc (.cells #[.int .i64 t.id, .int .i64 t.x0, .int .i64 t.z0, .int .i64 t.x1, .int .i64 t.z1, .int .i64 t.y0, .int .i64 t.y1, .int .i64 t.area] 114)).drew u5 (wj.alloc (.cells #[.int .i64 t.id, .int .i64 t.x0, .int .i64 t.z0, .int .i64 t.x1, .int .i64 t.z1, .int .i64 t.y0, .int .i64 t.y1, .int .i64 t.area] 114)).drew u5 n ys := Wri.start (OwnI.drewN (ho.alloc _) 1) (by simp [World.drew]; omega)
    go_region_held3 (fun WW => WW.cell? ⟨wj.heap.size, 0, none⟩ = some (.int .i64 t.id) ∧ WW.cell? ⟨wj.heap.size, 1, none⟩ = some (.int .i64 t.x0) ∧ WW.cell? ⟨wj.heap.size, 2, none⟩ = some (.int .i64 t.z0) ∧ WW.cell? ⟨wj.heap.size, 3, none⟩ = some (.int .i64 t.x1) ∧ WW.cell? ⟨wj.heap.size, 4, none⟩ = some (.int .i64 t.z1))
      (first
        | assumption
        | exact ⟨c0, c1, c2, c3, c4⟩
        | exact ⟨hw2.cell c0 hne, hw2.cell c1 hne, hw2.cell c2 hne, hw2.cell c3 hne, hw2.cell c4 hne⟩
        | fail)
      (first
        | (go_at_call 61; refine (refput_w _ (by assumption) B _ _ _ _ _ _ (by assumption) (by omega)).mono ?_; rintro e w2 ⟨v2, rfl, hw2⟩))
    rename_i hH
    clear hH
    have d5 := hw2.cell c5 hne
    have d6 := hw2.cell c6 hne
    have d7 := hw2.cell c7 hne
    have hne2 := hw2.ne hne (by simp [World.drew])
    obtain ⟨n3, ho3, hn3, hb3⟩ := hw2.fin (l := [t.id, t.x0, t.z0, t.x1, t.z1]) (m := 5) (ho.alloc _) (hbr.alloc hBj _) (by simp [encs]) rfl (HKa)
    clear hw2 hs0 hne c0 c1 c2 c3 c4 c5 c6 c7 HKa ho hbr
    have hB3 : B ≤ w2.heap.size := Nat.le_trans hB1 hb3.size
    obtain ⟨w3, v3, rfl, rfl⟩ : ∃ W v, W = w2 ∧ v = v2 := ⟨_, _, rfl, rfl⟩
    go_wp2_with fail
    have hs0 : Wri B w3.drew v3 w3.drew v3 n3 (ys ++ encs [t.id, t.x0, t.z0, t.x1, t.z1]) := Wri.start (OwnI.drewN (ho3) 1) (hB3)
    go_region_held3 (fun WW => WW.cell? ⟨wj.heap.size, 5, none⟩ = some (.int .i64 t.y0) ∧ WW.cell? ⟨wj.heap.size, 6, none⟩ = some (.int .i64 t.y1) ∧ WW.cell? ⟨wj.heap.size, 7, none⟩ = some (.int .i64 t.area))
      (first
        | assumption
        | exact ⟨d5, d6, d7⟩
        | exact ⟨hw2.cell d5 hne2, hw2.cell d6 hne2, hw2.cell d7 hne2⟩
        | fail)
      (first
        | (go_at_call 63; refine (refzig_any _ _ (by assumption) (by assumption)).mono ?_; rintro e wz ⟨rfl, rfl⟩)
        | (go_at_call 61; refine (refput_w _ (by assumption) B _ _ _ _ _ _ (by assumption) (by omega)).mono ?_; rintro e w2 ⟨v2, rfl, hw2⟩))
    rename_i hH
    clear hH
    obtain ⟨n4, ho4, hn4, hb4⟩ := hw2.fin (l := [(zig t.y0 : Int), zig t.y1, t.area]) (m := 3) (ho3) (hb3) (by simp [encs]) rfl (HKb)
    clear hw2 hs0 hne2 d5 d6 d7 HKb ho3 hb3
    go_wp2
    go_roundw
    case rel =>
      refine ⟨k + 1, n4, _, by go_num, by omega, ho4, by omega, ?_, hb4⟩
      show _ = _
      rw [HNY.out, List.append_assoc, ← encs_append]
      rfl
    case measure => simp [intOf]; omega
  obtain rfl : qn = k := by omega
  have hltn : ¬ (qn : Int) < (qn : Int) := by omega
  have HY1 : Hid (ys = encs (soupN1 c s ++ s.b.flatMap bxN)) := by show _ = _; rw [HY.out, List.take_of_length_le (by rw [lb.out]; exact Nat.le_refl _)]
  clear HY hlt hk
  have bs' := bcB HB.out hbr b2
  have lq := HS.out.h.max
  have lq2 := HS.out.h.le
  have lq3 : rn ≤ 16 := by have := HF.out.nh; rw [lh.out] at this; exact this
  have Hk1 : numOk (rn : Int) := by unfold numOk; omega
  go_wp2_with fail
  refine (refput_1 (rn : Int) Hk1 B w1 _ _ _ _ ho hbr hB1 (by omega)).mono ?_
  rintro e w21 ⟨v21, n21, rfl, ho21, hn21, hb21⟩
  have hm21 : n21 ≤ 19242 := by omega
  have HYN : Hid (ys ++ encs [(rn : Int)] = encs (soupN2 c s)) := by show _ = _; rw [HY1.out, ← encs_append, soupN2, lh.out]
  rw [HYN.out] at ho21
  clear hn21 ho hbr Hk1 HY1 HYN hn bs bs'
  have bs := bcB HB.out hb21 b2
  go_wp2_with fail
  clear bs
  go_loopw [5, 11] (fun b i wr => ∃ (k n : Nat) (ys : List Int), i = .int .i64 k ∧ k ≤ rn ∧ OwnI .u8 5 B wr b n ys ∧ n ≤ 19242 + 90 * k ∧ Hid (ys = encs (soupN2 c s ++ (s.h.take k).flatMap hpN)) ∧ Below B w1 wr) (fun _ i _ => rn - (intOf i).toNat)
  case atStart => exact ⟨0, n21, _, rfl, Nat.zero_le _, ho21, by omega, by simp [Hid], hb21⟩
  case round =>
  clear ho21 hb21 hm21
  obtain ⟨k, n, ys, rfl, hk, ho, hn, HY, hbr⟩ := hrel
  obtain ⟨wj, rfl⟩ : ∃ wj : World, wj = wr := ⟨_, rfl⟩
  have hBj : B ≤ wj.heap.size := Nat.le_trans hB1 hbr.size
  have bs := bcB HB.out hbr b2
  by_cases hlt : k < rn
  · have hltI : (k : Int) < (rn : Int) := by omega
    have hk0I : (0 : Int) ≤ (k : Int) := by omega
    obtain ⟨t, ht⟩ : ∃ t, s.h[k]? = some t := ⟨_, List.getElem?_eq_getElem (by rw [lh.out]; exact hlt)⟩
    have HtF := Lib.hid (HF.out.h t (mem_of_getElem? ht))
    have HKt := Lib.hid (hpN_ok HtF.out)
    have HNY : Hid (encs (soupN2 c s ++ (s.h.take (k + 1)).flatMap hpN) = ys ++ encs (hpN t)) := by show _ = _; rw [flatMap_take_succ ht, ← List.append_assoc, encs_append, ← HY.out]
    obtain ⟨b, off, ha, _, hcell⟩ := HS.out.h.at0 (by show 0 < rn; omega)
    simp only at ha
    subst ha
    have ct := hcell k t ht
    have h0 := ct 0 _ rfl
    have h1 := ct 1 _ rfl
    have h2 := ct 2 _ rfl
    have h3 := ct 3 _ rfl
    have h4 := ct 4 _ rfl
    have h5 := ct 5 _ rfl
    have h6 := ct 6 _ rfl
    have h7 := ct 7 _ rfl
    have h8 := ct 8 _ rfl
    have h9 := ct 9 _ rfl
    simp only [Nat.add_zero] at h0
    have g0 := bcB HB.out hbr h0
    have g1 := bcB HB.out hbr h1
    have g2 := bcB HB.out hbr h2
    have g3 := bcB HB.out hbr h3
    have g4 := bcB HB.out hbr h4
    have g5 := bcB HB.out hbr h5
    have g6 := bcB HB.out hbr h6
    have g7 := bcB HB.out hbr h7
    have g8 := bcB HB.out hbr h8
    have g9 := bcB HB.out hbr h9
    clear ct hcell ht HY hlt
    have hFa : SptF t.a := HtF.out.2.1
    have hFb : SptF t.b := HtF.out.2.2.1
    have qa := encs_len (l := sptN t.a) (m := 3) rfl (sptN_ok hFa)
    have qb := encs_len (l := sptN t.b) (m := 3) rfl (sptN_ok hFb)
    have hne := ho.ne (Nat.le_refl _)
    have HKa : ∀ x ∈ t.id :: (sptN t.a ++ sptN t.b), numOk x := fun x hx => HKt.out x (by simp only [sptN, List.cons_append, List.nil_append, List.mem_cons, List.not_mem_nil, or_false] at hx; simp only [hpN, List.mem_cons, List.not_mem_nil, or_false]; omega)
    have k0 : numOk t.id := HKt.out _ (by simp [hpN])
    have qk0 := enc_le k0
    have k1 : numOk t.area := HKt.out _ (by simp [hpN])
    have qk1 := enc_le k1
    have k2 : numOk t.cost := HKt.out _ (by simp [hpN])
    have qk2 := enc_le k2
    have kz : numOk 0 := by unfold numOk; omega
    have qkz := enc_le kz
    have ko : numOk 1 := by unfold numOk; omega
    have qko := enc_le ko
    have c0 := cell_heap (k := 0) (v := .int .i64 t.id) (World.alloc_heap_new wj (.cells #[.int .i64 t.id, .int .i64 t.a.x, .int .i64 t.a.z, .int .i64 t.a.y, .int .i64 t.b.x, .int .i64 t.b.z, .int .i64 t.b.y, .bool t.both, .int .i64 t.area, .int .i64 t.cost] 118)) rfl
    have c1 := cell_heap (k := 1) (v := .int .i64 t.a.x) (World.alloc_heap_new wj (.cells #[.int .i64 t.id, .int .i64 t.a.x, .int .i64 t.a.z, .int .i64 t.a.y, .int .i64 t.b.x, .int .i64 t.b.z, .int .i64 t.b.y, .bool t.both, .int .i64 t.area, .int .i64 t.cost] 118)) rfl
    have c2 := cell_heap (k := 2) (v := .int .i64 t.a.z) (World.alloc_heap_new wj (.cells #[.int .i64 t.id, .int .i64 t.a.x, .int .i64 t.a.z, .int .i64 t.a.y, .int .i64 t.b.x, .int .i64 t.b.z, .int .i64 t.b.y, .bool t.both, .int .i64 t.area, .int .i64 t.cost] 118)) rfl
    have c3 := cell_heap (k := 3) (v := .int .i64 t.a.y) (World.alloc_heap_new wj (.cells #[.int .i64 t.id, .int .i64 t.a.x, .int .i64 t.a.z, .int .i64 t.a.y, .int .i64 t.b.x, .int .i64 t.b.z, .int .i64 t.b.y, .bool t.both, .int .i64 t.area, .int .i64 t.cost] 118)) rfl
    have c4 := cell_heap (k := 4) (v := .int .i64 t.b.x) (World.alloc_heap_new wj (.cells #[.int .i64 t.id, .int .i64 t.a.x, .int .i64 t.a.z, .int .i64 t.a.y, .int .i64 t.b.x, .int .i64 t.b.z, .int .i64 t.b.y, .bool t.both, .int .i64 t.area, .int .i64 t.cost] 118)) rfl
    have c5 := cell_heap (k := 5) (v := .int .i64 t.b.z) (World.alloc_heap_new wj (.cells #[.int .i64 t.id, .int .i64 t.a.x, .int .i64 t.a.z, .int .i64 t.a.y, .int .i64 t.b.x, .int .i64 t.b.z, .int .i64 t.b.y, .bool t.both, .int .i64 t.area, .int .i64 t.cost] 118)) rfl
    have c6 := cell_heap (k := 6) (v := .int .i64 t.b.y) (World.alloc_heap_new wj (.cells #[.int .i64 t.id, .int .i64 t.a.x, .int .i64 t.a.z, .int .i64 t.a.y, .int .i64 t.b.x, .int .i64 t.b.z, .int .i64 t.b.y, .bool t.both, .int .i64 t.area, .int .i64 t.cost] 118)) rfl
    have c7 := cell_heap (k := 7) (v := .bool t.both) (World.alloc_heap_new wj (.cells #[.int .i64 t.id, .int .i64 t.a.x, .int .i64 t.a.z, .int .i64 t.a.y, .int .i64 t.b.x, .int .i64 t.b.z, .int .i64 t.b.y, .bool t.both, .int .i64 t.area, .int .i64 t.cost] 118)) rfl
    have c8 := cell_heap (k := 8) (v := .int .i64 t.area) (World.alloc_heap_new wj (.cells #[.int .i64 t.id, .int .i64 t.a.x, .int .i64 t.a.z, .int .i64 t.a.y, .int .i64 t.b.x, .int .i64 t.b.z, .int .i64 t.b.y, .bool t.both, .int .i64 t.area, .int .i64 t.cost] 118)) rfl
    have c9 := cell_heap (k := 9) (v := .int .i64 t.cost) (World.alloc_heap_new wj (.cells #[.int .i64 t.id, .int .i64 t.a.x, .int .i64 t.a.z, .int .i64 t.a.y, .int .i64 t.b.x, .int .i64 t.b.z, .int .i64 t.b.y, .bool t.both, .int .i64 t.area, .int .i64 t.cost] 118)) rfl
    go_wp2_with fail
    clear bs g0 g1 g2 g3 g4 g5 g6 g7 g8 g9
    have hs0 : Wri B (wj.alloc (.cells #[.int .i64 t.id, .int .i64 t.a.x, .int .i64 t.a.z, .int .i64 t.a.y, .int .i64 t.b.x, .int .i64 t.b.z, .int .i64 t.b.y, .bool t.both, .int .i64 t.area, .int .i64 t.cost] 118)).drew u5 (wj.alloc (.cells #[.int .i64 t.id, .int .i64 t.a.x, .int .i64 t.a.z, .int .i64 t.a.y, .int .i64 t.b.x, .int .i64 t.b.z, .int .i64 t.b.y, .bool t.both, .int .i64 t.area, .int .i64 t.cost] 118)).drew u5 n ys := Wri.start (OwnI.drewN (ho.alloc _) 1) (by simp [World.drew]; omega)
    go_region_held3 (fun WW => WW.cell? ⟨wj.heap.size, 0, none⟩ = some (.int .i64 t.id) ∧ WW.cell? ⟨wj.heap.size, 1, none⟩ = some (.int .i64 t.a.x) ∧ WW.cell? ⟨wj.heap.size, 2, none⟩ = some (.int .i64 t.a.z) ∧ WW.cell? ⟨wj.heap.size, 3, none⟩ = some (.int .i64 t.a.y) ∧ WW.cell? ⟨wj.heap.size, 4, none⟩ = some (.int .i64 t.b.x) ∧ WW.cell? ⟨wj.heap.size, 5, none⟩ = some (.int .i64 t.b.z) ∧ WW.cell? ⟨wj.heap.size, 6, none⟩ = some (.int .i64 t.b.y))
      (first
        | assumption
        | exact ⟨c0, c1, c2, c3, c4, c5, c6⟩
        | exact ⟨hw2.cell c0 hne, hw2.cell c1 hne, hw2.cell c2 hne, hw2.cell c3 hne, hw2.cell c4 hne, hw2.cell c5 hne, hw2.cell c6 hne⟩
        | fail)
      (first
        | (go_at_call 117; refine (refspotput_any _ (by assumption) B _ _ _ _ _ _ (by assumption) (by omega)).mono ?_; rintro e w2 ⟨v2, rfl, hw2⟩)
        | (go_at_call 61; refine (refput_w _ (by assumption) B _ _ _ _ _ _ (by assumption) (by omega)).mono ?_; rintro e w2 ⟨v2, rfl, hw2⟩))
    rename_i hH
    clear hH
    have d7 := hw2.cell c7 hne
    have d8 := hw2.cell c8 hne
    have d9 := hw2.cell c9 hne
    have hne2 := hw2.ne hne (by simp [World.drew])
    obtain ⟨n3, ho3, hn3, hb3⟩ := hw2.fin (l := (t.id :: (sptN t.a ++ sptN t.b))) (m := 7) (ho.alloc _) (hbr.alloc hBj _) (by simp [encs]) rfl (HKa)
    clear hw2 hs0 hne c0 c1 c2 c3 c4 c5 c6 c7 c8 c9 HKa ho hbr
    have hB3 : B ≤ w2.heap.size := Nat.le_trans hB1 hb3.size
    obtain ⟨w3, v3, rfl, rfl⟩ : ∃ W v, W = w2 ∧ v = v2 := ⟨_, _, rfl, rfl⟩
    cases hboth : t.both with
    | true =>
      rw [hboth] at d7
      have HKb : ∀ x ∈ [(1 : Int), t.area, t.cost], numOk x := by
        intro x hx
        simp only [List.mem_cons, List.not_mem_nil, or_false] at hx
        rcases hx with rfl | rfl | rfl
        · exact ko
        · exact k1
        · exact k2
      have Hbo := Lib.hid hboth
      clear hboth
      go_wp2_with fail
      have hs0 : Wri B w3.drew v3 w3.drew v3 n3 (ys ++ encs (t.id :: (sptN t.a ++ sptN t.b))) := Wri.start (OwnI.drewN (ho3) 1) (hB3)
      go_region_held3 (fun WW => WW.cell? ⟨wj.heap.size, 8, none⟩ = some (.int .i64 t.area) ∧ WW.cell? ⟨wj.heap.size, 9, none⟩ = some (.int .i64 t.cost))
        (first
          | assumption
          | exact ⟨d8, d9⟩
          | exact ⟨hw2.cell d8 hne2, hw2.cell d9 hne2⟩
          | fail)
        (first
          | (go_at_call 61; refine (refput_w _ (by assumption) B _ _ _ _ _ _ (by assumption) (by omega)).mono ?_; rintro e w2 ⟨v2, rfl, hw2⟩))
      rename_i hH
      clear hH
      obtain ⟨n4, ho4, hn4, hb4⟩ := hw2.fin (l := [(1 : Int), t.area, t.cost]) (m := 3) (ho3) (hb3) (by simp [encs]) rfl (HKb)
      clear hw2 hs0 hne2 d7 d8 d9 HKb ho3 hb3
      go_wp2
      go_roundw
      case rel =>
        refine ⟨k + 1, n4, _, by go_num, by omega, ho4, by omega, ?_, hb4⟩
        show _ = _
        rw [HNY.out, List.append_assoc, ← encs_append, hpN, Hbo.out]
        rfl
      case measure => simp [intOf]; omega
    | false =>
      rw [hboth] at d7
      have HKb : ∀ x ∈ [(0 : Int), t.area, t.cost], numOk x := by
        intro x hx
        simp only [List.mem_cons, List.not_mem_nil, or_false] at hx
        rcases hx with rfl | rfl | rfl
        · exact kz
        · exact k1
        · exact k2
      have Hbo := Lib.hid hboth
      clear hboth
      go_wp2_with fail
      have hs0 : Wri B w3.drew v3 w3.drew v3 n3 (ys ++ encs (t.id :: (sptN t.a ++ sptN t.b))) := Wri.start (OwnI.drewN (ho3) 1) (hB3)
      go_region_held3 (fun WW => WW.cell? ⟨wj.heap.size, 8, none⟩ = some (.int .i64 t.area) ∧ WW.cell? ⟨wj.heap.size, 9, none⟩ = some (.int .i64 t.cost))
        (first
          | assumption
          | exact ⟨d8, d9⟩
          | exact ⟨hw2.cell d8 hne2, hw2.cell d9 hne2⟩
          | fail)
        (first
          | (go_at_call 61; refine (refput_w _ (by assumption) B _ _ _ _ _ _ (by assumption) (by omega)).mono ?_; rintro e w2 ⟨v2, rfl, hw2⟩))
      rename_i hH
      clear hH
      obtain ⟨n4, ho4, hn4, hb4⟩ := hw2.fin (l := [(0 : Int), t.area, t.cost]) (m := 3) (ho3) (hb3) (by simp [encs]) rfl (HKb)
      clear hw2 hs0 hne2 d7 d8 d9 HKb ho3 hb3
      go_wp2
      go_roundw
      case rel =>
        refine ⟨k + 1, n4, _, by go_num, by omega, ho4, by omega, ?_, hb4⟩
        show _ = _
        rw [HNY.out, List.append_assoc, ← encs_append, hpN, Hbo.out]
        rfl
      case measure => simp [intOf]; omega
  obtain rfl : rn = k := by omega
  have hltn : ¬ (rn : Int) < (rn : Int) := by omega
  have HY1 : Hid (ys = encs (soupN2 c s ++ s.h.flatMap hpN)) := by show _ = _; rw [HY.out, List.take_of_length_le (by rw [lh.out]; exact Nat.le_refl _)]
  clear HY hlt hk
  have HZ : Hid (ys = encs (soupN c s)) := by show _ = _; rw [HY1.out]; rfl
  rw [HZ.out] at ho
  go_wp2
  go_ret
  have H1 := ho.mono (show w.heap.size ≤ B by rw [HB.out]; exact Hbw.out.size)
  have H2 := below_step2 Hbw.out (HB.out ▸ hbr)
  first
    | exact ⟨_, rfl, ⟨_, H1⟩, H2⟩
    | exact ⟨_, _, rfl, H1, H2⟩
    | exact ⟨_, rfl, _, H1, H2⟩
    | exact ⟨⟨_, H1⟩, H2⟩

end Go.Proofs.Ytilhmlapbifbbaa
