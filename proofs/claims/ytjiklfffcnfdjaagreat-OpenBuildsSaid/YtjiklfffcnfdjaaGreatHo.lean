/- Walks: package raster: inside, may, the maker of pieces. -/
import Derived.Test.YtjiklfffcnfdjaaGreatHr
import Derived.Test.YtjiklfffcnfdjaaGreatTrs
import Derived.Test.YtjiklfffcnfdjaaGreatGh
namespace Go.Proofs.YtjiklfffcnfdjaaGreat
open Go.RowKit
attribute [local go_sem] Instr.index

set_option maxHeartbeats 1000000 in
theorem inside_any (cf : Cfg) (x z : Int) (C : Nat) (w : World) (hC : w.heap[C]? = some (cfgO cf)) :
    Calls Tryz.prog 36 #[.pointer (some ⟨C, 0, none⟩), .int .i64 x, .int .i64 z] w fun e w' => e = .returned (.bool (inCol cf x z)) ∧ Below w.heap.size w w' := by
  obtain ⟨r, hr⟩ : ∃ r, r = inCol cf x z := ⟨_, rfl⟩
  rw [← hr]
  unfold inCol at hr
  have HR := Lib.hid hr
  clear hr
  obtain ⟨clear_, climb, height, rise, run, cw, cd⟩ := cf
  dsimp only [cfgO] at hC HR
  have c5 := hcell (k := 5) (v := .int .i64 cw) hC rfl
  have c6 := hcell (k := 6) (v := .int .i64 cd) hC rfl
  clear hC
  go_enter Tryz.func36, Tryz.ntmps36
  go_wp2
  all_goals
    go_ret
    refine ⟨ret_bool ?_, Below.refl _ _⟩
    rw [HR.out]
    clear HR
    grind

theorem trMay_id (W D i : Int) (t : Tr) : trMay W D ⟨i, t.a, t.b, t.c⟩ = trMay W D t := rfl
theorem take_all {cf : Cfg} {xs : List Tr} {k : Nat} {t : Tr} (ht : xs[k]? = some t) (h : ∀ u ∈ xs.take k, trMay cf.w cf.d u = true) (hm : trMay cf.w cf.d t = true) : ∀ u ∈ xs.take (k + 1), trMay cf.w cf.d u = true := by
  intro u hu
  rw [List.take_add_one, ht] at hu
  rcases List.mem_append.1 hu with h1 | h1
  · exact h u h1
  · simp at h1; rw [h1]; exact hm
theorem colMay_bad {cf : Cfg} {xs : List Tr} {k : Nat} {t : Tr} (hc : cfgOk cf = true) (ht : xs[k]? = some t) (hm : trMay cf.w cf.d t = false) : colMay cf xs = 2 := by
  rcases colMay_e cf xs with h | h | h
  · have := (colMay_zero.1 h).2.2 t (List.mem_of_getElem? ht)
    rw [hm] at this
    cases this
  · exact h
  · unfold colMay at h
    rw [hc] at h
    simp at h
    split at h
    · cases h
    · split at h <;> cases h
set_option maxRecDepth 100000 in
set_option maxHeartbeats 4000000 in
theorem rmay_any (cf : Cfg) (a : Option Addr) (n c : Nat) (xs : List Tr) (w : World) (hx : SlTr w a n c xs) :
    Calls Tryz.prog 25 #[cfgV cf, .slice a n c] w fun e w' => e = .returned (.int .i64 (colMay cf xs)) ∧ Below w.heap.size w w' := by
  have CF := Lib.hid (fun W => cfgcheck_any cf W)
  have Hl := Lib.hid hx.len
  have hmax := hx.max
  have hle := hx.le
  have Hx := Lib.hid hx; clear hx
  have hC := World.alloc_heap_new w (cfgO cf)
  have hB : Below w.heap.size w (w.alloc (cfgO cf)) := (Below.refl _ _).alloc (Nat.le_refl _) _
  obtain ⟨r, hr⟩ : ∃ r, r = colMay cf xs := ⟨_, rfl⟩
  rw [← hr]
  have HR := Lib.hid hr
  clear hr
  cases hcf : cfgOk cf with
  | false =>
    have h0 : cfgE cf = 20 := by unfold cfgE; rw [hcf]; rfl
    rw [h0] at CF
    have HR2 : Hid (r = 20) := by show _ = _; rw [HR.out]; unfold colMay; rw [hcf]; rfl
    clear h0 HR hcf
    obtain ⟨clear_, climb, height, rise, run, cw, cd⟩ := cf
    dsimp only [cfgO, cfgV] at CF hC hB ⊢
    go_enter Tryz.func25, Tryz.ntmps25
    go_wp2_with fail
    refine (CF.out _).mono ?_
    rintro e w1 ⟨rfl, hb1⟩
    have hB1 := hB.trans (hb1.mono hB.size)
    go_wp2
    go_ret
    exact ⟨ret_int HR2.out.symm, hB1⟩
  | true =>
  have h0 : cfgE cf = 0 := by unfold cfgE; rw [hcf]; rfl
  rw [h0] at CF
  clear h0
  by_cases hn : 200 < n
  · have hnI : (200 : Int) < (n : Int) := by omega
    have HR2 : Hid (r = 2) := by show _ = _; rw [HR.out]; unfold colMay; rw [hcf, if_neg (by simp), if_pos (by rw [Hl.out]; exact hn)]
    clear HR hcf
    obtain ⟨clear_, climb, height, rise, run, cw, cd⟩ := cf
    dsimp only [cfgO, cfgV] at CF hC hB ⊢
    go_enter Tryz.func25, Tryz.ntmps25
    go_wp2_with fail
    refine (CF.out _).mono ?_
    rintro e w1 ⟨rfl, hb1⟩
    have hB1 := hB.trans (hb1.mono hB.size)
    go_wp2
    go_ret
    exact ⟨ret_int HR2.out.symm, hB1⟩
  have hnI : ¬ (200 : Int) < (n : Int) := by omega
  have CK := Lib.hid (fun (k : Nat) (t : Tr) (ht : xs[k]? = some t) (W : World) => check_any cf ⟨1, t.a, t.b, t.c⟩ W hcf)
  have HT := Lib.hid (fun (k : Nat) (t : Tr) (ht : xs[k]? = some t) (h : ∀ u ∈ xs.take k, trMay cf.w cf.d u = true) (hm : trMay cf.w cf.d t = true) => take_all ht h hm)
  have HBad := Lib.hid (fun (k : Nat) (t : Tr) (ht : xs[k]? = some t) (hm : trMay cf.w cf.d t = false) => HR.out.trans (colMay_bad hcf ht hm))
  have HGood : Hid ((∀ u ∈ xs.take n, trMay cf.w cf.d u = true) → r = 0) := by
    intro h
    rw [List.take_of_length_le (by rw [Hl.out]; exact Nat.le_refl _)] at h
    rw [HR.out]
    exact colMay_zero.2 ⟨hcf, by rw [Hl.out]; omega, h⟩
  clear HR hcf
  have E1 : ∀ t : Tr, checkE cf ⟨1, t.a, t.b, t.c⟩ = if trMay cf.w cf.d t then 0 else 40 := fun t => rfl
  have HE := Lib.hid E1
  clear E1
  obtain ⟨M, hM⟩ : ∃ M : Tr → Bool, M = trMay cf.w cf.d := ⟨_, rfl⟩
  obtain ⟨G, hG⟩ : ∃ G : Tr → Int, G = fun t => checkE cf ⟨1, t.a, t.b, t.c⟩ := ⟨_, rfl⟩
  have hMt : ∀ t, trMay cf.w cf.d t = M t := fun t => by rw [hM]
  have hGt : ∀ t : Tr, checkE cf ⟨1, t.a, t.b, t.c⟩ = G t := fun t => by rw [hG]
  simp only [hMt] at HT HBad HGood HE
  simp only [hGt] at CK HE
  clear hM hG hMt hGt
  obtain ⟨clear_, climb, height, rise, run, cw, cd⟩ := cf
  dsimp only [cfgO, cfgV, trA] at CF hC hB CK ⊢
  obtain ⟨T, hTT⟩ : ∃ T, T = w.heap.size := ⟨_, rfl⟩
  rw [← hTT] at hC
  have HTT := Lib.hid hTT
  clear hTT
  go_enter Tryz.func25, Tryz.ntmps25
  go_wp2_with fail
  refine (CF.out _).mono ?_
  rintro e w1 ⟨rfl, hb1⟩
  have hB1 := hB.trans (hb1.mono hB.size)
  have hC1 := hkeep hb1 hC
  rw [← HTT.out]
  clear hB hb1 hC
  go_wp2
  go_loopw [17] (fun s17 wr => ∃ k : Nat, s17 = .int .i64 k ∧ k ≤ n ∧ Hid (∀ u ∈ xs.take k, M u = true) ∧ wr.heap[T]? = some (.cells #[.int .i64 clear_, .int .i64 climb, .int .i64 height, .int .i64 rise, .int .i64 run, .int .i64 cw, .int .i64 cd] 23 (0, 0)) ∧ Below w.heap.size w wr) (fun s17 _ => n - (intOf s17).toNat)
  case atStart => exact ⟨0, rfl, Nat.zero_le _, fun u hu => by simp at hu, hC1, hB1⟩
  case round =>
    obtain ⟨k, rfl, hk, Hpre, hCr, hbr⟩ := hrel
    clear hC1 hB1
    by_cases hlt : k < n
    · have hltI : (k : Int) < (n : Int) := by omega
      obtain ⟨t, ht⟩ : ∃ t, xs[k]? = some t := ⟨_, List.getElem?_eq_getElem (by rw [Hl.out]; exact hlt)⟩
      have hxr := Hx.out.below hbr (Nat.le_refl _)
      obtain ⟨bk, off, rfl, hbl, hc⟩ := hxr.at0 (by omega)
      obtain ⟨q0, q1, q2, q3, q4, q5, q6, q7, q8, q9⟩ := SlTr.cells hc ht
      have CK2 := Lib.hid (CK.out k t ht)
      have HE2 := Lib.hid (HE.out t)
      have HT2 := Lib.hid (HT.out k t ht Hpre.out)
      have HB2 := Lib.hid (HBad.out k t ht)
      generalize M t = m at HE2 HT2 HB2
      generalize G t = g at HE2 CK2
      clear hc hxr ht Hx
      obtain ⟨i, ⟨ax, ay, az⟩, ⟨bx, by_, bz⟩, ⟨cx, cy, cz⟩⟩ := t
      simp only at q0 q1 q2 q3 q4 q5 q6 q7 q8 q9 CK2
      have e0 := hcell (k := 0) (v := .int .i64 clear_) hCr rfl
      have e1 := hcell (k := 1) (v := .int .i64 climb) hCr rfl
      have e2 := hcell (k := 2) (v := .int .i64 height) hCr rfl
      have e3 := hcell (k := 3) (v := .int .i64 rise) hCr rfl
      have e4 := hcell (k := 4) (v := .int .i64 run) hCr rfl
      have e5 := hcell (k := 5) (v := .int .i64 cw) hCr rfl
      have e6 := hcell (k := 6) (v := .int .i64 cd) hCr rfl
      have hTl := hblt hCr
      have hCA := halloc hCr (.cells #[.int .i64 1, .int .i64 ax, .int .i64 ay, .int .i64 az, .int .i64 bx, .int .i64 by_, .int .i64 bz, .int .i64 cx, .int .i64 cy, .int .i64 cz] 77)
      have hbA := hbr.alloc hbr.size (.cells #[.int .i64 1, .int .i64 ax, .int .i64 ay, .int .i64 az, .int .i64 bx, .int .i64 by_, .int .i64 bz, .int .i64 cx, .int .i64 cy, .int .i64 cz] 77)
      go_wp2_with fail
      refine (CK2.out _).mono ?_
      rintro e w3 ⟨rfl, hb3⟩
      have hC3 := hkeep hb3 hCA
      have hB3 := hbA.trans (hb3.mono hbA.size)
      clear q0 q1 q2 q3 q4 q5 q6 q7 q8 q9 e0 e1 e2 e3 e4 e5 e6 hCA hbA hb3
      cases m with
      | true =>
        have eg : g = 0 := HE2.out
        subst eg
        go_wp2
        go_roundw
        case rel => exact ⟨k + 1, by go_num, by omega, HT2.out (by first | rfl | trivial), hC3, hB3⟩
        case measure => simp [intOf]; omega
      | false =>
        have eg : g = 40 := HE2.out
        subst eg
        have HR2 : Hid (r = 2) := HB2.out (by first | rfl | trivial)
        go_wp2
        go_ret
        exact ⟨ret_int HR2.out.symm, hB3⟩
    · obtain rfl : k = n := by omega
      have HR2 : Hid (r = 0) := HGood.out Hpre.out
      go_wp2
      go_ret
      exact ⟨ret_int HR2.out.symm, hbr⟩
end Go.Proofs.YtjiklfffcnfdjaaGreat

namespace Go.Proofs.YtjiklfffcnfdjaaGreat
open Go.RowKit Go.Shelf Go.Sort
attribute [local go_sem] Oper.semAt_some Instr.index

/-- What pieces has laid from block B on: the config's address, the triangles, the column. -/
structure PcsAt (B C : Nat) (cf : Cfg) (x z : Int) (a : Option Addr) (n c : Nat) (xs : List Tr) (w : World) : Prop where
  cp : w.heap[B]? = some (.cells #[.pointer (some ⟨C, 0, none⟩)] 67 (0, 0))
  sl : w.heap[B + 1]? = some (.cells #[.slice a n c] 25 (0, 0))
  px : w.heap[B + 2]? = some (.cells #[.int .i64 x] 3 (0, 0))
  pz : w.heap[B + 3]? = some (.cells #[.int .i64 z] 3 (0, 0))
  cfg : w.heap[C]? = some (cfgO cf)
  xs : SlTr w a n c xs
theorem PcsAt.below {B C : Nat} {cf : Cfg} {x z : Int} {a : Option Addr} {n c : Nat} {xs : List Tr} {w w' : World} (h : PcsAt B C cf x z a n c xs w) (hb : Below w.heap.size w w') : PcsAt B C cf x z a n c xs w' :=
  ⟨hkeep hb h.cp, hkeep hb h.sl, hkeep hb h.px, hkeep hb h.pz, hkeep hb h.cfg, h.xs.below hb (Nat.le_refl _)⟩
theorem PcsAt.keep {B C : Nat} {cf : Cfg} {x z : Int} {a : Option Addr} {n c : Nat} {xs : List Tr} {w w' : World} (h : PcsAt B C cf x z a n c xs w) {L : Nat} {S : Nat → Prop} (hk : KeepEx L S w w') (hL : B + 3 < L) (hC : C < L) (h0 : ¬ S B) (h1 : ¬ S (B + 1)) (h2 : ¬ S (B + 2)) (h3 : ¬ S (B + 3)) (h4 : ¬ S C) (ha : ∀ ad, a = some ad → n = 0 ∨ (ad.block < L ∧ ¬ S ad.block)) : PcsAt B C cf x z a n c xs w' :=
  ⟨(hk.block _ (by omega) h0).trans h.cp, (hk.block _ (by omega) h1).trans h.sl, (hk.block _ (by omega) h2).trans h.px, (hk.block _ (by omega) h3).trans h.pz, (hk.block _ hC h4).trans h.cfg, h.xs.keepEx hk ha⟩

set_option maxHeartbeats 400000 in
theorem pieces_any (cf : Cfg) (C : Nat) (x z : Int) (a : Option Addr) (n c : Nat) (xs : List Tr) (w : World) (hC : w.heap[C]? = some (cfgO cf)) (hx : SlTr w a n c xs) :
    Calls Tryz.prog 37 #[.pointer (some ⟨C, 0, none⟩), .slice a n c, .int .i64 x, .int .i64 z] w fun e w' => e = .returned (.func (.func 45) #[] #[.pointer (some ⟨w.heap.size + 1, 0, none⟩), .pointer (some ⟨w.heap.size + 2, 0, none⟩), .pointer (some ⟨w.heap.size + 3, 0, none⟩), .pointer (some ⟨w.heap.size, 0, none⟩)]) ∧ Below w.heap.size w w' ∧ PcsAt w.heap.size C cf x z a n c xs w' ∧ w'.heap.size = w.heap.size + 4 := by
  have h0 := World.alloc_heap_new w (.cells #[.pointer (some ⟨C, 0, none⟩)] 67)
  have h1 := World.alloc_heap_new (w.alloc (.cells #[.pointer (some ⟨C, 0, none⟩)] 67)) (.cells #[.slice a n c] 25)
  have h2 := World.alloc_heap_new ((w.alloc (.cells #[.pointer (some ⟨C, 0, none⟩)] 67)).alloc (.cells #[.slice a n c] 25)) (.cells #[.int .i64 x] 3)
  have h3 := World.alloc_heap_new (((w.alloc (.cells #[.pointer (some ⟨C, 0, none⟩)] 67)).alloc (.cells #[.slice a n c] 25)).alloc (.cells #[.int .i64 x] 3)) (.cells #[.int .i64 z] 3)
  have hC3 := halloc (halloc (halloc (halloc hC (.cells #[.pointer (some ⟨C, 0, none⟩)] 67)) (.cells #[.slice a n c] 25)) (.cells #[.int .i64 x] 3)) (.cells #[.int .i64 z] 3)
  have h0 := halloc (halloc (halloc h0 (.cells #[.slice a n c] 25)) (.cells #[.int .i64 x] 3)) (.cells #[.int .i64 z] 3)
  have h1 := halloc (halloc h1 (.cells #[.int .i64 x] 3)) (.cells #[.int .i64 z] 3)
  have h2 := halloc h2 (.cells #[.int .i64 z] 3)
  simp only [World.size_alloc] at h0 h1 h2 h3 hC3
  have Hx := Lib.hid hx; clear hx hC
  go_enter Tryz.func37, Tryz.ntmps37
  go_wp2
  go_ret
  refine ⟨rfl, ((((Below.refl _ _).alloc (Nat.le_refl _) _).alloc (by simp) _).alloc (by simp; omega) _).alloc (by simp; omega) _, ⟨h0, h1, h2, h3, hC3, (((Hx.out.alloc _).alloc _).alloc _).alloc _⟩, by simp⟩

theorem pieces_prefix (rise run x z : Int) (l : List Tr) (k : Nat) : piecesT rise run x z (l.take k) <+: piecesT rise run x z l := by
  have : piecesT rise run x z l = piecesT rise run x z (l.take k) ++ piecesT rise run x z (l.drop k) := by
    unfold piecesT
    rw [← List.filterMap_append, List.take_append_drop]
  rw [this]
  exact List.prefix_append _ _
theorem pieces_len (rise run x z : Int) (l : List Tr) : (piecesT rise run x z l).length ≤ l.length := List.length_filterMap_le _ _
theorem pieces_yes {rise run x z : Int} {l : List Tr} {k : Nat} {t : Tr} (ht : l[k]? = some t) (h : (overT t x z).2.2.1 = true) : piecesT rise run x z (l.take (k + 1)) = piecesT rise run x z (l.take k) ++ [⟨(overT t x z).1, (overT t x z).2.1, walkV rise run t⟩] := by
  rw [pieces_succ rise run x z ht]
  congr 1
  unfold pieceT
  rw [if_pos h]
  rfl
theorem pieces_no {rise run x z : Int} {l : List Tr} {k : Nat} {t : Tr} (ht : l[k]? = some t) (h : (overT t x z).2.2.1 = false) : piecesT rise run x z (l.take (k + 1)) = piecesT rise run x z (l.take k) := by
  rw [pieces_succ rise run x z ht]
  unfold pieceT
  rw [h]
  simp
theorem over_tr (t : Tr) (x z : Int) (w : World) :
    Calls Tryz.prog 46 #[trA t, .int .i64 x, .int .i64 z] w fun e w' => e = .returned (.tuple #[.int .i64 (overT t x z).1, .int .i64 (overT t x z).2.1, .bool (overT t x z).2.2.1, .int .i64 (overT t x z).2.2.2]) ∧ Below w.heap.size w w' :=
  overE_any t.id t.a t.b t.c x z w

set_option maxRecDepth 100000 in
set_option maxHeartbeats 4000000 in
theorem pieces_stops (m : Nat) (hm : 1 ≤ m) (B C L : Nat) (S : Nat → Prop) (cf : Cfg) (x z : Int) (a : Option Addr) (n c : Nat) (xs : List Tr) (w : World) (hcf : cfgOk cf = true) (hmay : ∀ t ∈ xs, trMay cf.w cf.d t = true) (he : PcsAt B C cf x z a n c xs w) (hL : B + 3 < L) (hCL : C < L) (h0 : ¬ S B) (h1 : ¬ S (B + 1)) (h2 : ¬ S (B + 2)) (h3 : ¬ S (B + 3)) (h4 : ¬ S C) (ha : ∀ ad, a = some ad → n = 0 ∨ (ad.block < L ∧ ¬ S ad.block)) :
    SeqStopsK Fence.wide m Tryz.prog 45 #[.pointer (some ⟨B + 1, 0, none⟩), .pointer (some ⟨B + 2, 0, none⟩), .pointer (some ⟨B + 3, 0, none⟩), .pointer (some ⟨B, 0, none⟩)] (fun s : Spn => #[Value.agg #[.int .i64 s.lo, .int .i64 s.hi, .bool s.walk]]) (KeepEx L S) (fun ys => ys = piecesT cf.rise cf.run x z xs) (fun pre => pre <+: piecesT cf.rise cf.run x z xs) n w := fun l J Jx W hW hJ hJx hY h0' => by
  have he' := he.below hW
  have Hl := Lib.hid he.xs.len
  have hle := he.xs.le
  have hmax := he.xs.max
  have HJ := Lib.hid hJ; clear hJ hJx
  have HY := Lib.hid hY; clear hY
  have Ha := Lib.hid ha; clear ha
  have OV := Lib.hid (fun (k : Nat) (t : Tr) (_ : xs[k]? = some t) (W : World) => over_tr t x z W)
  have WK := Lib.hid (fun (k : Nat) (t : Tr) (ht : xs[k]? = some t) (W : World) => walk_any cf t W hcf (hmay t (List.mem_of_getElem? ht)))
  have PY := Lib.hid (fun (k : Nat) (t : Tr) (ht : xs[k]? = some t) => pieces_yes (rise := cf.rise) (run := cf.run) (x := x) (z := z) ht)
  have PN := Lib.hid (fun (k : Nat) (t : Tr) (ht : xs[k]? = some t) => pieces_no (rise := cf.rise) (run := cf.run) (x := x) (z := z) ht)
  have PP := Lib.hid (fun k => pieces_prefix cf.rise cf.run x z xs k)
  have PL := Lib.hid (fun k => pieces_len cf.rise cf.run x z (xs.take k))
  have PA : Hid (piecesT cf.rise cf.run x z (xs.take n) = piecesT cf.rise cf.run x z xs) := by show _ = _; rw [List.take_of_length_le (by rw [Hl.out]; exact Nat.le_refl _)]
  clear hmay hcf
  have hmo : Tryz.prog.follows .mixedOrders = true := by kernel_rfl
  obtain ⟨cl, climb, height, rise, run, cw, cd⟩ := cf
  dsimp only [cfgV] at WK PY PN PP PL PA ⊢
  refine callsIn_of_wp Tryz.func45 rfl trivial ?_ rfl
  simp only [Tryz.ntmps45, List.size_toArray, List.length_cons, List.length_nil, Nat.reduceAdd, Nat.reduceSub, Array.replicate_succ, Array.replicate_zero, List.push_toArray, List.append_toArray, List.nil_append, List.cons_append]
  have q1 := hcell (k := 0) (v := .slice a n c) he'.sl rfl
  gi_wp2
  gi_loopw [16] (fun i wr => ∃ (k : Nat) (pre : List Spn), i = .int .i64 k ∧ k ≤ n ∧ PcsAt B C ⟨cl, climb, height, rise, run, cw, cd⟩ x z a n c xs wr ∧ pre = piecesT rise run x z (xs.take k) ∧ J pre wr) (fun i _ => n - (intOf i).toNat)
  case atStart => exact ⟨0, [], rfl, Nat.zero_le _, he', by simp [piecesT], h0'⟩
  case round =>
    clear q1 he' h0'
    obtain ⟨k, pre, rfl, hk, he2, hpre, hJs⟩ := hrel
    have Hpre := Lib.hid hpre; clear hpre
    by_cases hlt : k < n
    · obtain ⟨t, hxk⟩ : ∃ t, xs[k]? = some t := ⟨_, List.getElem?_eq_getElem (by rw [Hl.out]; exact hlt)⟩
      have hltI : (k : Int) < (n : Int) := by omega
      have hkl : pre.length ≤ k := by
        have := PL.out k
        have h5 := List.length_take_le k xs
        rw [← Hpre.out] at this
        omega
      obtain ⟨bk, off, rfl, hbl, hc⟩ := he2.xs.at0 (by omega)
      obtain ⟨q0, q1, q2, q3, q4, q5, q6, q7, q8, q9⟩ := SlTr.cells hc hxk
      have OV2 := Lib.hid (OV.out k t hxk)
      have WK2 := Lib.hid (WK.out k t hxk)
      have PY2 := Lib.hid (PY.out k t hxk)
      have PN2 := Lib.hid (PN.out k t hxk)
      generalize (overT t x z).1 = lo at OV2 PY2
      generalize (overT t x z).2.1 = hi at OV2 PY2
      generalize (overT t x z).2.2.1 = ok at OV2 PY2 PN2
      generalize (overT t x z).2.2.2 = er at OV2
      generalize walkV rise run t = wk at WK2 PY2
      obtain ⟨i, ⟨ax, ay, az⟩, ⟨bx, by_, bz⟩, ⟨cx, cy, cz⟩⟩ := t
      dsimp only [trA] at q0 q1 q2 q3 q4 q5 q6 q7 q8 q9 OV2 WK2
      clear hc hxk OV WK PY PN
      have px := hcell (k := 0) (v := .int .i64 x) he2.px rfl
      have pz := hcell (k := 0) (v := .int .i64 z) he2.pz rfl
      have hbx := hblt he2.px
      have hbz := hblt he2.pz
      have hbc := hblt he2.cfg
      have heA := he2.below ((Below.refl _ _).alloc (Nat.le_refl _) (.cells #[.int .i64 i, .int .i64 ax, .int .i64 ay, .int .i64 az, .int .i64 bx, .int .i64 by_, .int .i64 bz, .int .i64 cx, .int .i64 cy, .int .i64 cz] 77))
      have hTA := World.alloc_heap_new wr (.cells #[.int .i64 i, .int .i64 ax, .int .i64 ay, .int .i64 az, .int .i64 bx, .int .i64 by_, .int .i64 bz, .int .i64 cx, .int .i64 cy, .int .i64 cz] 77)
      have hJA : J pre (wr.alloc (.cells #[.int .i64 i, .int .i64 ax, .int .i64 ay, .int .i64 az, .int .i64 bx, .int .i64 by_, .int .i64 bz, .int .i64 cx, .int .i64 cy, .int .i64 cz] 77)) := AbidesFrom.below HJ.out hJs ((Below.refl _ _).alloc (Nat.le_refl _) _)
      gi_wp2_with fail
      refine ⟨trivial, ?_⟩
      gi_at_call 46
      refine (callsIn_wide.2 (OV2.out _)).mono ?_
      rintro e w3 ⟨rfl, hb3⟩
      have He3 := heA.below hb3
      have hT3 := hkeep hb3 hTA
      have hJ3 : J pre w3 := AbidesFrom.below HJ.out hJA hb3
      clear q0 q1 q2 q3 q4 q5 q6 q7 q8 q9 px pz heA hTA hJA hb3 hJs he2 OV2
      cases ok with
      | false =>
        gi_wp2
        go_roundw
        case rel => exact ⟨k + 1, pre, by go_num, by omega, He3, by rw [PN2.out (by first | rfl | trivial)]; exact Hpre.out, hJ3⟩
        case measure => simp [intOf]; omega
      | true =>
        have e_p := fun d os => cell_regrown (hcell (k := 0) (v := .pointer (some ⟨C, 0, none⟩)) He3.cp rfl) d os
        have e_c0 := fun d os => cell_regrown (hcell (k := 0) (v := .int .i64 cl) He3.cfg rfl) d os
        have e_c1 := fun d os => cell_regrown (hcell (k := 1) (v := .int .i64 climb) He3.cfg rfl) d os
        have e_c2 := fun d os => cell_regrown (hcell (k := 2) (v := .int .i64 height) He3.cfg rfl) d os
        have e_c3 := fun d os => cell_regrown (hcell (k := 3) (v := .int .i64 rise) He3.cfg rfl) d os
        have e_c4 := fun d os => cell_regrown (hcell (k := 4) (v := .int .i64 run) He3.cfg rfl) d os
        have e_c5 := fun d os => cell_regrown (hcell (k := 5) (v := .int .i64 cw) He3.cfg rfl) d os
        have e_c6 := fun d os => cell_regrown (hcell (k := 6) (v := .int .i64 cd) He3.cfg rfl) d os
        have e_t0 := fun d os => cell_regrown (hcell (k := 0) (v := .int .i64 i) hT3 rfl) d os
        have e_t1 := fun d os => cell_regrown (hcell (k := 1) (v := .int .i64 ax) hT3 rfl) d os
        have e_t2 := fun d os => cell_regrown (hcell (k := 2) (v := .int .i64 ay) hT3 rfl) d os
        have e_t3 := fun d os => cell_regrown (hcell (k := 3) (v := .int .i64 az) hT3 rfl) d os
        have e_t4 := fun d os => cell_regrown (hcell (k := 4) (v := .int .i64 bx) hT3 rfl) d os
        have e_t5 := fun d os => cell_regrown (hcell (k := 5) (v := .int .i64 by_) hT3 rfl) d os
        have e_t6 := fun d os => cell_regrown (hcell (k := 6) (v := .int .i64 bz) hT3 rfl) d os
        have e_t7 := fun d os => cell_regrown (hcell (k := 7) (v := .int .i64 cx) hT3 rfl) d os
        have e_t8 := fun d os => cell_regrown (hcell (k := 8) (v := .int .i64 cy) hT3 rfl) d os
        have e_t9 := fun d os => cell_regrown (hcell (k := 9) (v := .int .i64 cz) hT3 rfl) d os
        clear hT3
        gi_wp2
        refine wpIn_region_quiet_below rfl hmo (by kernel_rfl) ?_
        iterate 4 (gi_big_quiet_step (fail))
        refine BigFrame.wpQuietIn_want (fun _ _ _ _ => trivial) rfl ?_
        intro K hK
        gi_big_quiet_op
        gi_big_quiet_call ((gi_at_call 47; exact CallsIn.regrown_of (callsIn_wide.2 (WK2.out _))))
        repeat (gi_big_quiet_step (fail))
        refine wpQuietIn_nil ?_
        rintro w5 ⟨⟨d5, os5⟩, hw5⟩
        have hb5 : Below w3.heap.size w3 w5 := by rw [hw5]; exact below_regrown w3 d5 os5
        clear hw5 e_p e_c0 e_c1 e_c2 e_c3 e_c4 e_c5 e_c6 e_t0 e_t1 e_t2 e_t3 e_t4 e_t5 e_t6 e_t7 e_t8 e_t9
        have He5 := He3.below hb5
        have hJ5 : J pre w5 := AbidesFrom.below HJ.out hJ3 hb5
        clear hb5 He3 hJ3
        obtain ⟨fn, tmps, assign, body, hy, hR⟩ := HY.out pre ⟨lo, hi, wk⟩ w5 hJ5 (by omega)
        dsimp only at hy
        have HR := Lib.hid hR; clear hR
        gi_wp2
        refine HR.out.mono ?_
        rintro e W3 (⟨rfl, hJ3, hk3⟩ | ⟨rfl, hJx3⟩)
        · clear hJ5 hy HR
          gi_wp2
          go_roundw
          case rel => exact ⟨k + 1, pre ++ [⟨lo, hi, wk⟩], by go_num, by omega, He5.keep hk3 hL hCL h0 h1 h2 h3 h4 Ha.out, by rw [PY2.out (by first | rfl | trivial), Hpre.out], hJ3⟩
          case measure => simp [intOf]; omega
        · clear hJ5 hy HR
          gi_wp2
          refine bodyPost_ret (results_none rfl _ _ _) rfl ?_
          refine ⟨⟨_, rfl⟩, .inr ⟨_, ?_, hJx3⟩⟩
          rw [Hpre.out, ← PY2.out (by first | rfl | trivial)]
          exact PP.out _
    · obtain rfl : k = n := by omega
      gi_wp2
      go_end0
      refine ⟨⟨_, rfl⟩, .inl ⟨pre, by rw [Hpre.out, PA.out], hJs⟩⟩
end Go.Proofs.YtjiklfffcnfdjaaGreat
