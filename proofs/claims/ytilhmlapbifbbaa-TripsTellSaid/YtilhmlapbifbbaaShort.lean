/- Walks: trips.Short. -/
import Derived.Test.YtilhmlapbifbbaaMark
namespace Go.Proofs.Ytilhmlapbifbbaa
open Go.RowKit Go.Shelf Go.Sort
attribute [local go_sem] Oper.semAt_some

theorem MRowAt.mono {B B' : Nat} {w : World} {m : MRow} (h : MRowAt B w m) (hB : B' ≤ B) : MRowAt B' w m := ⟨Nat.le_trans hB h.lo, h.blk, h.le, h.max⟩
theorem Boxed.ne_row {B B' : Nat} {w : World} {t : TypeId} {v : Value} {m : MRow} (h : Boxed w B t v) (hm : MRowAt B' w m) (ht : t ≠ 3) : B ≠ m.g := by
  intro e
  obtain ⟨cur, h1, _⟩ := hm.blk
  rw [← e, show w.heap[B]? = _ from h] at h1
  simp at h1
  exact ht h1.2
theorem Mat.keptRow {B : Nat} {w w' : World} {v : Value} {ms : List MRow} (h : Mat B w v ms) {row : Option Nat} (hg : w.grownBy w' row) (hrow : ∀ r, row = some r → ∃ o : Obj, w.heap[r]? = some o ∧ o.isCells = false) : Mat B w' v ms := by
  refine ⟨h.own.kept hg ?_, fun m hm => (h.row m hm).kept (hg.block m.g (h.row m hm).lt (fun e => ?_)), h.nd⟩
  · rcases h.own.2 with ⟨rfl, _⟩ | ⟨g, cap, cur, rfl, _, hgb, _⟩
    · exact .inl rfl
    · refine .inr fun e => ?_
      obtain ⟨o, h1, h2⟩ := hrow g (by simpa [Value.ownBlock] using e.symm)
      rw [hgb] at h1
      cases h1
      cases h2
  · obtain ⟨o, h1, h2⟩ := hrow m.g e.symm
    obtain ⟨cur, h3, _⟩ := (h.row m hm).blk
    rw [h3] at h1
    cases h1
    cases h2
theorem diag0_take {t : List (List Int)} {k : Nat} (hk : k < t.length) : (diag0 t).take (k + 1) = (diag0 t).take k ++ [(t.getD k []).set k 0] := by
  rw [List.take_add_one]
  simp [diag0, hk]
theorem diag0_len (t : List (List Int)) : (diag0 t).length = t.length := by simp [diag0]

theorem fold_facts {n : Nat} {s : List (List Int)} (h : Low n s) {k : Nat} (hk : k < n) (hn : n ≤ 12) (hh : ∀ i j, i < n → j < n → gt s i j ≤ 1099511627776 * 2 ^ k) (l : List (PrN n)) :
    Sq n ((l.map Subtype.val).foldl (relax k) s) ∧ ∀ i j, i < n → j < n → -1 ≤ gt ((l.map Subtype.val).foldl (relax k) s) i j ∧ gt ((l.map Subtype.val).foldl (relax k) s) i j ≤ 9007199254740992 := by
  obtain ⟨h1, h2⟩ := passK_inv h hk (l.map Subtype.val) (fun p hp => by obtain ⟨x, _, rfl⟩ := List.mem_map.1 hp; exact x.2) s h.sq (fun _ _ _ _ => .inl rfl)
  refine ⟨h1, fun i j hi hj => ?_⟩
  have e : (1099511627776 * 2 ^ k : Int) ≤ 2251799813685248 := by
    have h3 : 2 ^ k ≤ 2 ^ 11 := Nat.pow_le_pow_right (by decide) (by omega)
    have h4 : ((2 ^ k : Nat) : Int) = 2 ^ k := by simp
    rw [← h4]
    omega
  have l1 := h.low i j hi hj
  have l2 := h.low i k hi hk
  have l3 := h.low k j hk hj
  have u1 := hh i j hi hj
  have u2 := hh i k hi hk
  have u3 := hh k j hk hj
  have hc := fK_cases h hk hi hj
  rw [h2 i j hi hj]
  split <;> omega
theorem bet_eq {T : List (List Int)} {k p q : Nat} {A B C : Int} (hA : A = gt T p k) (hB : B = gt T k q) (hC : C = gt T p q) : bet T k p q = ((A != -1) && (B != -1) && lessI (A + B) C) := by
  rw [hA, hB, hC]
  rfl

set_option maxRecDepth 100000 in
set_option maxHeartbeats 2000000 in
theorem short_yes (a : Option Addr) (n c : Nat) (rs : List TRow) (w : World) (hx : SlT w a n c rs) (hm : mayT (tabOf rs) = true) :
    Calls Try.prog 37 #[.slice a n c] w fun e w' => ∃ v ms, e = .returned (.tuple #[v, .int .i64 0]) ∧ Mat w.heap.size w' v ms ∧ mTab ms = shortP (tabOf rs) ∧ Below w.heap.size w w' := by
  have htl := hx.tlen
  have hmax := hx.sl.max
  have hle := hx.sl.le
  obtain ⟨hn12, hsq⟩ := mayT_sq hm
  rw [htl] at hn12 hsq
  have hrn : ∀ r ∈ rs, r.n = n := fun r hr => by
    have h1 := (hx.rows r hr).len
    rw [← h1]
    exact hsq.2 _ (List.mem_map.2 ⟨r, hr, rfl⟩)
  have Hrn := Lib.hid hrn
  have Hl := Lib.hid htl
  have Hm := Lib.hid hm
  have Hsq := Lib.hid hsq
  have Hx := Lib.hid hx
  clear htl hm hsq hx hrn
  refine (callsIn_wide (n := 5)).1 ?_
  refine callsIn_of_wp_marks Try.func37 rfl trivial ?_ rfl
  simp only [Try.ntmps37, List.size_toArray, List.length_cons, List.length_nil, Nat.reduceAdd, Nat.reduceSub, Array.replicate_succ, Array.replicate_zero, List.push_toArray, List.append_toArray, List.nil_append, List.cons_append]
  gi_wp2_with fail
  refine ⟨trivial, ?_⟩
  gi_at_call 38
  refine (callsIn_wide.2 (may_tab a n c rs _ Hx.out)).mono ?_
  rw [Hm.out]
  rintro e w1 ⟨rfl, hb1⟩
  have hmo : Try.prog.follows .mixedOrders = true := by kernel_rfl
  obtain ⟨i0, hi, hz0, hz1, hz2⟩ := info_parts info_row
  gi_wp2
  have bS := Boxed.new w1 52 (.slice none 0 0)
  have hB2 := hb1.alloc hb1.size (.cells #[.slice none 0 0] 52)
  obtain ⟨w2, hw2⟩ : ∃ w2, w2 = w1.alloc (.cells #[.slice none 0 0] 52) := ⟨_, rfl⟩
  rw [← hw2] at bS hB2 ⊢
  clear hw2 
  have hs1 := hb1.size
  clear hb1
  obtain ⟨Bs, hBs⟩ : ∃ Bs, Bs = w1.heap.size := ⟨_, rfl⟩
  rw [← hBs] at bS ⊢ hs1
  clear hBs
  gi_loopw [16] (fun i wr => ∃ (k : Nat) (v : Value) (ms : List MRow), i = .int .i64 k ∧ k ≤ n ∧ Boxed wr Bs 52 v ∧ Mat w.heap.size wr v ms ∧ ms.length = k ∧ Hid (mTab ms = (diag0 (tabOf rs)).take k) ∧ Below w.heap.size w wr) (fun i _ => n - (intOf i).toNat)
  case atStart => exact ⟨0, _, [], rfl, Nat.zero_le _, bS, Mat.nil _ _, rfl, rfl, hB2⟩
  case round =>
    clear bS hB2
    obtain ⟨wo, rfl⟩ : ∃ wo : World, wo = wr := ⟨_, rfl⟩
    obtain ⟨k, v, ms, rfl, hk, bS, hmat, hml, Hms, hBr⟩ := hrel
    have Hml := Lib.hid hml; clear hml
    by_cases hlt : k < n
    · have hltI : (k : Int) < (n : Int) := by omega
      have hxr := Hx.out.below hBr (Nat.le_refl _)
      obtain ⟨b, off, r, rfl, hr, hc, hs, ht⟩ := hxr.row hlt
      have hrn := Hrn.out r (List.mem_of_getElem? hr)
      obtain ⟨ra, rn, rc, rxs⟩ := r
      simp only at hrn hc hs ht
      have hrn' := hrn.symm
      clear hrn
      subst hrn'
      have Hs := Lib.hid hs
      have Ht := Lib.hid ht
      have cS := bS.cell
      clear hr hxr hs ht
      gi_wp2
      refine wpIn_region_heads (late := fun j => j == 5) (S := fun w' => w'.cell? ⟨Bs, 0, none⟩ = some v) 2 (fun _ => trivial) hmo (by kernel_rfl) (by kernel_rfl) cS ?_
      simp only [List.take_succ_cons, List.take_zero, List.drop_succ_cons, List.drop_zero]
      refine wpHeads_cons v rfl (fun w' s1 => by go_simp) ?_
      refine wpHeads_cons (.slice ra n rc) rfl (fun w' s1 => by go_simp) ?_
      refine wpHeads_nil ?_
      go_simp
      refine wpTailT_cons rfl (fun K hK => ?_)
      gi_wp2_with fail
      refine ⟨trivial, ?_⟩
      gi_at_call 69
      refine (callsIn_wide.2 (clone_any ra n rc rxs _ (Hs.out.below (Below.refl _ _).drew (Nat.le_refl _)) (by omega) (by omega))).mono ?_
      rintro e w3 ⟨m, rfl, hmx, hrow, hb3'⟩
      have hb3 : Below wo.heap.size wo w3 := ⟨hb3'.os, hb3'.tape, hb3'.output, hb3'.size, hb3'.block⟩
      replace hrow : MRowAt wo.heap.size w3 m := hrow
      clear hb3'
      unfold mrV
      have hml1 : ms.length ≤ k := by have := Hml.out; omega
      have hml2 : k ≤ ms.length := by have := Hml.out; omega
      have hmxl : m.xs.length = n := by rw [hmx]; exact Hs.out.len
      have bS3 : Boxed w3 Bs 52 v := (hb3.block Bs bS.lt).trans bS
      have hmat3 : Mat w.heap.size w3 v ms := hmat.below hb3 (Nat.le_refl _)
      have hBr3 : Below w.heap.size w w3 := hBr.trans (hb3.mono hBr.size)
      have hs3 : wo.heap.size ≤ w3.heap.size := hb3.size
      have hnew : ∀ m' ∈ ms, m'.g ≠ m.g := fun m' h' => by have := (hmat.row m' h').lt; have := hrow.lo; intro e; omega
      have hnev : v.ownBlock ≠ some m.g := fun e => by have := (hmat.own.lt _ e).2; have := hrow.lo; omega
      have hrow3 : MRowAt w.heap.size w3 m := hrow.mono hBr.size
      have Hmx := Lib.hid hmx
      have Hmxl := Lib.hid hmxl
      have c3 := bS3.cell
      clear cS hmx hmxl hrow hb3
      gi_wp2
      refine hK _ _ (fun _ => c3) ?_
      clear hK
      refine wpTailT_cons rfl (fun K hK => ?_)
      gi_wp2
      refine hK _ _ (fun _ => (bS3.alloc _).cell) ?_
      clear hK
      refine wpTailT_cons rfl (fun K hK => ?_)
      gi_wp2_with (gi_at_builtin; refine wpListIn_append_own _ rfl _ _ 52 rfl w.heap.size 36 i0 (.slice none 0 0) 1 24 Try.underlying52 hi hz0 hz1 hz2 rfl (by decide) _ _ _ rfl (hmat3.own.alloc _) ⟨w3.heap.size, 0, none⟩ 1 1 [mrV m] rfl rfl (cell_one_new _ _ _) (by simp [Value.oneCell', mrV]) (by unfold maxLen; omega) (by omega) (by have := hBr3.size; simp; omega) ?_; intro v' w5 hown' hgrow _; obtain ⟨g', cap', rfl⟩ := ownsRow_succ hown')
      have bS5 : Boxed w5 Bs 52 v := (bS3.alloc _).kept hgrow (bS3.not_row (by decide) hmat3.own)
      have hmat5 : Mat w.heap.size w5 (.slice (some ⟨g', 0, none⟩) (ms.length + 1) cap') (ms ++ [m]) :=
        Mat.push (hmat3.kept (World.grownBy_alloc w3 _ none)) (hrow3.kept (Below.heap_alloc w3 _ _ hrow3.lt)) hnew hgrow hnev hown'
      have hB5 : Below w.heap.size w w5 := (hBr3.alloc hBr3.size _).grown hgrow (by have := hBr3.size; simp; omega) (fun j ej => (hmat3.own.lt _ ej).1)
      refine hK _ _ (fun _ => bS5.cell) ?_
      clear hK
      go_simp
      have c5 := bS5.cell
      have f5 := bS5.frozen
      refine wpTailT_cons rfl (fun K hK => ?_)
      gi_wp2
      refine hK _ _ (fun h => by cases h) ?_
      clear hK c5 f5 c3 hc
      refine wpTailT_nil ?_
      have bS6 := bS5.set (.slice (some ⟨g', 0, none⟩) (ms.length + 1) cap')
      have hmat6 := hmat5.setOther (a := ⟨Bs, 0, none⟩) (bS5.not_row (by decide) hown').symm (fun m' hm' => (Boxed.ne_row bS5 (hmat5.row m' hm') (by decide)).symm) (.slice (some ⟨g', 0, none⟩) (ms.length + 1) cap')
      have hB6 := hB5.setCell (p := ⟨Bs, 0, none⟩) (by simp; omega) (.slice (some ⟨g', 0, none⟩) (ms.length + 1) cap')
      obtain ⟨w6, hw6⟩ : ∃ w6, w6 = w5.setCell ⟨Bs, 0, none⟩ (.slice (some ⟨g', 0, none⟩) (ms.length + 1) cap') := ⟨_, rfl⟩
      rw [← hw6] at bS6 hmat6 hB6 ⊢
      clear hw6 bS5 hmat5 hB5 hown' hgrow bS3 hmat3 hrow3 hnew hnev
      have hmx1 : n ≤ m.xs.length := by have := Hmxl.out; omega
      have hmk : (ms ++ [m])[k]? = some m := by rw [List.getElem?_append_right (by omega), Nat.sub_eq_zero_of_le (by omega)]; rfl
      obtain ⟨g2, cap2, hv2, hl2, hm2, hcell⟩ := hmat6.cell hmk
      simp only [Value.slice.injEq, Option.some.injEq, Addr.mk.injEq, and_true] at hv2
      obtain ⟨rfl, hv3, rfl⟩ := hv2
      have c6 := bS6.cell
      unfold mrV at hcell
      obtain ⟨x0, hx0⟩ : ∃ x0, m.xs[k]? = some x0 := ⟨_, List.getElem?_eq_getElem (by omega)⟩
      obtain ⟨cx, fx⟩ := (hmat6.row m (by simp)).cell hx0
      have hmc := (hmat6.row m (by simp)).le
      have hmm := (hmat6.row m (by simp)).max
      unfold maxLen at hmm
      have hkI : (k : Int) < (ms.length : Int) + 1 := by omega
      have hkI2 : (k : Int) < (m.xs.length : Int) := by omega
      rw [List.length_append, List.length_singleton] at hl2
      have Hx0 := Lib.hid hx0
      have Hmk := Lib.hid hmk
      clear hx0 hmk hv3
      go_simp
      gi_wp2
      go_roundw
      case rel =>
        refine ⟨k + 1, _, _, by go_num, by omega, ?_, Mat.set hmat6 Hmk.out 0, by rw [List.length_set, List.length_append, List.length_singleton, Hml.out], ?_, hB6.setCell (p := ⟨m.g, k, none⟩) (hmat6.row m (by simp)).lo _⟩
        · exact (Below.heap_setCell w6 ⟨m.g, k, none⟩ _ Bs (Boxed.ne_row bS6 (hmat6.row m (by simp)) (by decide))).trans bS6
        · show _ = _
          rw [mTab_set Hmk.out, diag0_take (by rw [Hl.out]; exact hlt), ← Hms.out, Ht.out]
          have e1 : mTab (ms ++ [m]) = mTab ms ++ [rxs] := by simp [mTab, Hmx.out]
          have e2 : (mTab ms).length = k := by simp [mTab, Hml.out]
          rw [e1]
          unfold st
          rw [List.set_append_right _ _ (by omega), e2, Nat.sub_self, List.getD_eq_getElem?_getD, List.getElem?_append_right (by omega), e2, Nat.sub_self]
          rfl
      case measure => simp [intOf]; omega
    · obtain rfl : n = k := by omega
      have hms0 : Hid (mTab ms = diag0 (tabOf rs)) := by show _ = _; rw [Hms.out, List.take_of_length_le (by rw [diag0_len, Hl.out]; exact Nat.le_refl _)]
      have hltn : ¬ (n : Int) < (n : Int) := by omega
      clear hlt
      gi_wp2
      refine wpIn_loop (fun a' wr => ∃ (u7 u8 u9 u10 u35 u36 u37 u38 u39 u40 u42 u43 u44 u45 u46 u47 u48 u49 u50 u51 u52 u53 u54 u55 u56 u57 u58 u59 u60 u61 u62 u63 u64 u65 u66 u67 u68 u69 u70 u71 u72 u73 u74 u75 u76 u77 u78 u79 u80 u81 u82 u83 u84 u85 u86 u87 u88 u89 u90 : Value) (Ds : List Nat), (∃ (k2 : Nat) (ms2 : List MRow), u35 = .int .i64 k2 ∧ k2 ≤ n ∧ Boxed wr Bs 52 v ∧ Mat w.heap.size wr v ms2 ∧ Hid (mTab ms2 = upto n (diag0 (tabOf rs)) k2) ∧ Below w.heap.size w wr ∧ Marks w.heap.size wr.heap.size wr Ds) ∧ a' = { tmps := #[.slice a n c, undef, .slice none 0 0, .int .i64 0, .pointer (some ⟨Bs, 0, none⟩), u5, u6, u7, u8, u9, u10, .slice a n c, .bool true, .bool false, .slice a n c, .int .i64 n, .int .i64 n, .bool false, u18, u19, u20, u21, u22, u23, u24, u25, u26, u27, u28, u29, u30, u31, u32, .slice a n c, .int .i64 n, u35, u36, u37, u38, u39, u40, undef, u42, u43, u44, u45, u46, u47, u48, u49, u50, u51, u52, u53, u54, u55, u56, u57, u58, u59, u60, u61, u62, u63, u64, u65, u66, u67, u68, u69, u70, u71, u72, u73, u74, u75, u76, u77, u78, u79, u80, u81, u82, u83, u84, u85, u86, u87, u88, u89, u90, undef], defers := Ds.map mark }) (fun a' _ => n - (intOf (a'.tmps.getD 35 undef)).toNat) ?atStart ?round
      case atStart => exact ⟨_, _, _, _, _, _, _, _, _, _, _, _, _, _, _, _, _, _, _, _, _, _, _, _, _, _, _, _, _, _, _, _, _, _, _, _, _, _, _, _, _, _, _, _, _, _, _, _, _, _, _, _, _, _, _, _, _, _, _, [], ⟨0, ms, rfl, Nat.zero_le _, bS, hmat, hms0, hBr, Marks.nil _ _ _⟩, rfl⟩
      case round =>
        rintro a' wr ⟨u7, u8, u9, u10, u35, u36, u37, u38, u39, u40, u42, u43, u44, u45, u46, u47, u48, u49, u50, u51, u52, u53, u54, u55, u56, u57, u58, u59, u60, u61, u62, u63, u64, u65, u66, u67, u68, u69, u70, u71, u72, u73, u74, u75, u76, u77, u78, u79, u80, u81, u82, u83, u84, u85, u86, u87, u88, u89, u90, Ds, ⟨k2, ms2, rfl, hk2, bS2, hmat2, Hms2, hBr2, hMk⟩, rfl⟩
        clear bS hmat hBr hms0 Hms Hml hltn
        obtain ⟨wq, rfl⟩ : ∃ wq : World, wq = wr := ⟨_, rfl⟩
        have bS := bS2; have hmat := hmat2; have Hms := Hms2; have hBr := hBr2
        clear bS2 hmat2 Hms2 hBr2
        by_cases hlt2 : k2 < n
        · have hltI : (k2 : Int) < (n : Int) := by omega
          gi_wp2_with fail
          refine ⟨trivial, ?_⟩
          gi_at_call 70
          refine (callsIn_wide.2 (pairs_any n _)).mono ?_
          rintro e w4 ⟨rfl, hw4⟩
          have hn0 : 0 < n := by omega
          have hq2 := Hsq.out
          have hpass := pass_upto Hm.out k2 (by rw [Hl.out]; omega)
          rw [Hl.out] at hpass
          have Hpass := Lib.hid hpass
          have Hlow : Hid (Low n (mTab ms2)) := by show Low n _; rw [Hms.out]; exact hpass.low
          have Hhi : Hid (∀ i j, i < n → j < n → gt (mTab ms2) i j ≤ 1099511627776 * 2 ^ k2) := by show ∀ i j, _; rw [Hms.out]; exact hpass.hi
          clear hpass hq2
          have hml2 : ms2.length = n := by have := Hlow.out.sq.1; simpa [mTab] using this
          obtain ⟨m0, hm0⟩ : ∃ m0, ms2[0]? = some m0 := ⟨_, List.getElem?_eq_getElem (by omega)⟩
          obtain ⟨g, cap, hv, hcapl, hcapm, _⟩ := hmat.cell hm0
          rw [hml2] at hv hcapl
          have Hml2 := Lib.hid hml2
          clear hm0 hml2
          subst hv
          have hglt : ∀ m ∈ ms2, m.g < wq.heap.size := fun m hm => (hmat.row m hm).lt
          have bS4 : Boxed w4 Bs 52 (.slice (some ⟨g, 0, none⟩) n cap) := by rw [hw4]; exact (bS.alloc _).alloc _
          have hmat4 : Mat w.heap.size w4 (.slice (some ⟨g, 0, none⟩) n cap) ms2 := by rw [hw4]; exact (hmat.kept (World.grownBy_alloc _ _ none)).kept (World.grownBy_alloc _ _ none)
          have bY4 : Boxed w4 wq.heap.size 3 (.int .i64 k2) := by rw [hw4]; exact (Boxed.new wq 3 (.int .i64 k2)).alloc _
          have bN4 : w4.cell? ⟨wq.heap.size + 1, 0, none⟩ = some (.int .i64 n) := by rw [hw4, World.cell?_alloc_at _ _ _ _ (by simp)]; rfl
          have hB4 : Below w.heap.size w w4 := by rw [hw4]; exact (hBr.alloc hBr.size _).alloc (by have := hBr.size; simp; omega) _
          have hMk4 : Marks w.heap.size wq.heap.size w4 Ds := by rw [hw4]; exact (hMk.alloc _).alloc _
          have hs4 : w4.heap.size = wq.heap.size + 2 := by rw [hw4]; simp
          have hBqs := hBr.size
          have Hglt := Lib.hid hglt
          clear hw4 hglt bS hmat hMk
          gi_wp2
          refine wpIn_rangeFunc_ownH rfl (by decide) (gf := 105) (lb := #[.pointer (some ⟨wq.heap.size + 1, 0, none⟩)]) rfl trivial (enters_of Try.func105 (by kernel_rfl) rfl)
            (pairs_stops 4 (by decide) (wq.heap.size + 1) (wq.heap.size + 2) (fun j => j ≠ wq.heap.size + 1) n hn12 w4 bN4 (by omega) (by simp)) keepEx_t (keepEx_b (by omega)) (Below.refl _ _) (fun _ => rfl)
            (fun pre W => (∃ ms3, Boxed W Bs 52 (.slice (some ⟨g, 0, none⟩) n cap) ∧ Mat w.heap.size W (.slice (some ⟨g, 0, none⟩) n cap) ms3 ∧ mTab ms3 = (pre.map Subtype.val).foldl (relax k2) (mTab ms2) ∧ ms3.map MRow.g = ms2.map MRow.g ∧ Boxed W wq.heap.size 3 (.int .i64 k2)) ∧ (Below w.heap.size w W ∧ wq.heap.size + 2 ≤ W.heap.size ∧ Marks w.heap.size wq.heap.size W Ds))
            (fun _ _ _ => False)
            (OwnFrom.and (Own.from (fun s A B row hs hg hr => by
              obtain ⟨ms3, h1, h2, h3, h4, h5⟩ := hs
              exact ⟨ms3, boxed_own _ _ (fun _ : Unit => Value.slice (some ⟨g, 0, none⟩) n cap) () A B row h1 hg hr, h2.keptRow hg hr, h3, h4, boxed_own _ _ (fun _ : Unit => Value.int .i64 (k2 : Int)) () A B row h5 hg hr⟩) _) (OwnFrom.and (ownFrom_below (Nat.le_refl _) hB4.size) (OwnFrom.and (fun _ _ _ _ hs hg _ => Nat.le_trans hs hg.size) (ownFrom_marks (by omega)))))
            (fun _ _ _ _ _ hs _ _ => hs)
            ⟨⟨ms2, bS4, hmat4, rfl, rfl, bY4⟩, hB4, by omega, hMk4⟩
            (fun x a' W => ∃ Bx, wq.heap.size + 2 ≤ Bx ∧ W.heap[Bx]? = some (.cells #[.int .i64 (x.1.1 : Int), .int .i64 (x.1.2 : Int)] 65 (0, 0)) ∧ a' = { tmps := #[.slice a n c, undef, .slice none 0 0, .int .i64 0, .pointer (some ⟨Bs, 0, none⟩), u5, u6, .pointer (some ⟨wq.heap.size, 0, none⟩), .pointer (some ⟨Bx, 0, none⟩), u9, u10, .slice a n c, .bool true, .bool false, .slice a n c, .int .i64 n, .int .i64 n, .bool false, u18, u19, u20, u21, u22, u23, u24, u25, u26, u27, u28, u29, u30, u31, u32, .slice a n c, .int .i64 n, .int .i64 k2, .bool true, .int .i64 k2, .slice a n c, .int .i64 n, .func (.func 105) #[] #[.pointer (some ⟨wq.heap.size + 1, 0, none⟩)], .agg #[.int .i64 (x.1.1 : Int), .int .i64 (x.1.2 : Int)], u42, u43, u44, u45, u46, u47, u48, u49, u50, u51, u52, u53, u54, u55, u56, u57, u58, u59, u60, u61, u62, u63, u64, u65, u66, u67, u68, u69, u70, u71, u72, u73, u74, u75, u76, u77, u78, u79, u80, u81, u82, u83, u84, u85, u86, u87, u88, u89, u90, undef], defers := [] })
            (fun x a' _ A B row hs hg hr => by
              obtain ⟨Bx, h1, h2, h3⟩ := hs
              refine ⟨Bx, h1, (hg.block Bx (Array.getElem?_eq_some_iff.1 h2).1 (fun e => ?_)).trans h2, h3⟩
              obtain ⟨_, o, ho, hc⟩ := hr Bx e.symm
              rw [h2] at ho
              cases ho
              cases hc) ?assign ?body ?done ?stop
          case assign =>
            rintro l pre x W K ⟨⟨ms3, h1, h2, h3, h4, h5⟩, hB, hsW, hMk⟩ hK
            gi_wp2
            refine hK _ _ ((KeepsOthers.alloc _ _).from _) (KeepEx.of_below ((Below.refl _ _).alloc (Nat.le_refl _) _) hsW) ⟨⟨ms3, h1.alloc _, h2.kept (World.grownBy_alloc _ _ none), h3, h4, h5.alloc _⟩, hB.alloc hB.size _, by simp; omega, hMk.alloc _⟩ ⟨W.heap.size, hsW, World.alloc_heap_new W _, rfl⟩
          case body =>
            rintro l pre ⟨⟨p, q⟩, hpq⟩ a' W hl _ ⟨⟨ms3, bS3, hmat3, hT, hg3, bY3⟩, hB3, hsW, hMk⟩ ⟨Bx, hBx, hx, rfl⟩ hlt
            obtain ⟨hp, hq⟩ : p < n ∧ q < n := hpq
            obtain ⟨hq3, hbd⟩ := fold_facts Hlow.out hlt2 hn12 Hhi.out pre
            rw [← hT] at hq3 hbd
            have hml3 : ms3.length = n := by have := hq3.1; simpa [mTab] using this
            obtain ⟨mp, hmp⟩ : ∃ m, ms3[p]? = some m := ⟨_, List.getElem?_eq_getElem (by omega)⟩
            obtain ⟨mk, hmk⟩ : ∃ m, ms3[k2]? = some m := ⟨_, List.getElem?_eq_getElem (by omega)⟩
            have hpl : mp.xs.length = n := hq3.2 _ (List.mem_map.2 ⟨mp, List.mem_of_getElem? hmp, rfl⟩)
            have hkl : mk.xs.length = n := hq3.2 _ (List.mem_map.2 ⟨mk, List.mem_of_getElem? hmk, rfl⟩)
            have rp := hmat3.row mp (List.mem_of_getElem? hmp)
            have rk := hmat3.row mk (List.mem_of_getElem? hmk)
            have cp : W.cell? ⟨g, p, none⟩ = some (.slice (some ⟨mp.g, 0, none⟩) n mp.c) := by
              obtain ⟨g', cap', e1, _, _, c⟩ := hmat3.cell hmp
              simp only [Value.slice.injEq, Option.some.injEq, Addr.mk.injEq, and_true] at e1
              rw [e1.1, c, mrV, hpl]
            have ck : W.cell? ⟨g, k2, none⟩ = some (.slice (some ⟨mk.g, 0, none⟩) n mk.c) := by
              obtain ⟨g', cap', e1, _, _, c⟩ := hmat3.cell hmk
              simp only [Value.slice.injEq, Option.some.injEq, Addr.mk.injEq, and_true] at e1
              rw [e1.1, c, mrV, hkl]
            obtain ⟨A, hA⟩ : ∃ A, A = gt (mTab ms3) p k2 := ⟨_, rfl⟩
            obtain ⟨B, hB⟩ : ∃ B, B = gt (mTab ms3) k2 q := ⟨_, rfl⟩
            obtain ⟨C, hC⟩ : ∃ C, C = gt (mTab ms3) p q := ⟨_, rfl⟩
            have cA := (rp.cell (mTab_gt hmp hq3 hp hlt2)).1
            have cB := (rk.cell (mTab_gt hmk hq3 hlt2 hq)).1
            obtain ⟨cC, fC⟩ := rp.cell (mTab_gt hmp hq3 hp hq)
            rw [← hA] at cA
            rw [← hB] at cB
            rw [← hC] at cC
            have bA := hbd p k2 hp hlt2
            have bB := hbd k2 q hlt2 hq
            have bC := hbd p q hp hq
            rw [← hA] at bA
            rw [← hB] at bB
            rw [← hC] at bC
            have Hbet : Hid (bet (mTab ms3) k2 p q = ((A != -1) && (B != -1) && lessI (A + B) C)) := bet_eq hA hB hC
            have HsA : Hid (gt (mTab ms3) p k2 + gt (mTab ms3) k2 q = A + B) := by show _ = _; rw [← hA, ← hB]
            obtain ⟨bA0, bA1⟩ := bA
            obtain ⟨bB0, bB1⟩ := bB
            obtain ⟨bC0, bC1⟩ := bC
            have x0 : W.cell? ⟨Bx, 0, none⟩ = some (.int .i64 (p : Int)) := by simp [World.cell?, hx]
            have x1 : W.cell? ⟨Bx, 1, none⟩ = some (.int .i64 (q : Int)) := by simp [World.cell?, hx]
            have hpI : (p : Int) < (n : Int) := by omega
            have hqI : (q : Int) < (n : Int) := by omega
            have hmpc : mp.c ≤ 9223372036854775807 := by have := rp.max; unfold maxLen at this; exact this
            have hmkc : mk.c ≤ 9223372036854775807 := by have := rk.max; unfold maxLen at this; exact this
            have hmpn : n ≤ mp.c := by have := rp.le; omega
            have hmkn : n ≤ mk.c := by have := rk.le; omega
            have HT := Lib.hid hT; have Hq3 := Lib.hid hq3; have Hmp := Lib.hid hmp
            have Hg3 := Lib.hid hg3
            clear hT hq3 hbd hml3 hmp hmk hpl hkl hA hB hC hg3
            have e0 := fun d os => cell_regrown x0 d os
            have e1 := fun d os => cell_regrown x1 d os
            have e2 := fun d os => cell_regrown bS3.cell d os
            have e3 := fun d os => cell_regrown bY3.cell d os
            have e4 := fun d os => cell_regrown cp d os
            have e5 := fun d os => cell_regrown ck d os
            have e6 := fun d os => cell_regrown cA d os
            have e7 := fun d os => cell_regrown cB d os
            have e8 := fun d os => cell_regrown cC d os
            gi_wp2
            refine wpIn_round_quiet_below hmo (by kernel_rfl) (by kernel_rfl) ?_
            repeat (gi_big_quiet_step (fail))
            refine wpQuietIn_nil ?_
            rintro w15 ⟨⟨d15, os15⟩, hw15⟩
            have hB15 : Below W.heap.size W w15 := by rw [hw15]; exact below_regrown W d15 os15
            have y0 := e0 d15 os15
            have y1 := e1 d15 os15
            have y2 := e2 d15 os15
            have y3 := e3 d15 os15
            have y4 := e4 d15 os15
            have y5 := e5 d15 os15
            have y6 := e6 d15 os15
            have y7 := e7 d15 os15
            have y8 := e8 d15 os15
            rw [← hw15] at y0 y1 y2 y3 y4 y5 y6 y7 y8
            clear hw15 e0 e1 e2 e3 e4 e5 e6 e7 e8 x0 x1 cp ck cA cB cC
            have e0 := fun d os => cell_regrown y0 d os
            have e1 := fun d os => cell_regrown y1 d os
            have e2 := fun d os => cell_regrown y2 d os
            have e3 := fun d os => cell_regrown y3 d os
            have e4 := fun d os => cell_regrown y4 d os
            have e5 := fun d os => cell_regrown y5 d os
            have e6 := fun d os => cell_regrown y6 d os
            have e7 := fun d os => cell_regrown y7 d os
            have e8 := fun d os => cell_regrown y8 d os
            by_cases qa : A = -1
            · have q1 : (A != -1) = false := by simp [qa]
              have Hb : Hid (bet (mTab ms3) k2 p q = false) := by show _ = _; rw [Hbet.out, q1]; rfl
              clear qa
              gi_wp2
              refine wpIn_round_quiet_below hmo (by kernel_rfl) (by kernel_rfl) ?_
              repeat (gi_big_quiet_step (fail))
              refine BigFrame.wpQuietIn_skip (fun _ _ _ _ => trivial) rfl ?_
              go_simp
              repeat (gi_big_quiet_step (fail))
              refine wpQuietIn_nil ?_
              rintro ⟨d16, os16⟩
              obtain ⟨w16, hw16⟩ : ∃ w16, w16 = grow (redrawn w15 d16) os16 := ⟨_, rfl⟩
              simp only
              rw [← hw16]
              have hB16 : Below W.heap.size W w16 := by rw [hw16]; exact hB15.trans ((below_regrown w15 d16 os16).mono hB15.size)
              clear hw16
              gi_wp2
              refine ⟨KeepsFrom.of_below hB16 _, KeepEx.of_below hB16 hsW, ⟨ms3, (hB16.block Bs bS3.lt).trans bS3, hmat3.below hB16 (Nat.le_refl _), ?_, Hg3.out, (hB16.block _ bY3.lt).trans bY3⟩, hB3.trans (hB16.mono hB3.size), Nat.le_trans hsW hB16.size, hMk.below hB16 (by omega)⟩
              rw [List.map_append, List.foldl_append, ← HT.out]
              show mTab ms3 = relax k2 (mTab ms3) (p, q)
              unfold relax
              rw [if_neg (by rw [Hb.out]; simp)]
            have q1 : (A != -1) = true := by simp [qa]
            by_cases qb : B = -1
            · have q2 : (B != -1) = false := by simp [qb]
              have Hb : Hid (bet (mTab ms3) k2 p q = false) := by show _ = _; rw [Hbet.out, q1, q2]; rfl
              clear qb
              gi_wp2
              refine wpIn_round_quiet_below hmo (by kernel_rfl) (by kernel_rfl) ?_
              repeat (gi_big_quiet_step (fail))
              refine BigFrame.wpQuietIn_skip (fun _ _ _ _ => trivial) rfl ?_
              go_simp
              repeat (gi_big_quiet_step (fail))
              refine wpQuietIn_nil ?_
              rintro ⟨d16, os16⟩
              obtain ⟨w16, hw16⟩ : ∃ w16, w16 = grow (redrawn w15 d16) os16 := ⟨_, rfl⟩
              simp only
              rw [← hw16]
              have hB16 : Below W.heap.size W w16 := by rw [hw16]; exact hB15.trans ((below_regrown w15 d16 os16).mono hB15.size)
              clear hw16
              gi_wp2
              refine ⟨KeepsFrom.of_below hB16 _, KeepEx.of_below hB16 hsW, ⟨ms3, (hB16.block Bs bS3.lt).trans bS3, hmat3.below hB16 (Nat.le_refl _), ?_, Hg3.out, (hB16.block _ bY3.lt).trans bY3⟩, hB3.trans (hB16.mono hB3.size), Nat.le_trans hsW hB16.size, hMk.below hB16 (by omega)⟩
              rw [List.map_append, List.foldl_append, ← HT.out]
              show mTab ms3 = relax k2 (mTab ms3) (p, q)
              unfold relax
              rw [if_neg (by rw [Hb.out]; simp)]
            have q2 : (B != -1) = true := by simp [qb]
            obtain ⟨r, hr⟩ : ∃ r, r = lessI (A + B) C := ⟨_, rfl⟩
            have Hles := Lib.hid hr.symm
            have Hb : Hid (bet (mTab ms3) k2 p q = r) := by show _ = _; rw [Hbet.out, q1, q2, hr]; rfl
            clear hr
            cases r with
            | false =>
              gi_wp2
              refine wpIn_round_quiet_below hmo (by kernel_rfl) (by kernel_rfl) ?_
              repeat (gi_big_quiet_step (fail))
              refine BigFrame.wpQuietIn_want (fun _ _ _ _ => trivial) rfl ?_
              intro K hK
              gi_big_quiet_op
              gi_big_quiet_call ((gi_at_call 71; exact CallsIn.regrown_of ((callsIn_wide.2 (less_any (A + B) C _)).mono (fun _ _ h => ⟨by rw [h.1, Hles.out], by rw [← h.2]; exact Below.refl _ _⟩))))
              repeat (gi_big_quiet_step (fail))
              refine wpQuietIn_nil ?_
              rintro w16 ⟨⟨d16, os16⟩, hw16⟩
              have hB16 : Below W.heap.size W w16 := by rw [hw16]; exact hB15.trans ((below_regrown w15 d16 os16).mono hB15.size)
              clear hw16
              gi_wp2
              refine ⟨KeepsFrom.of_below hB16 _, KeepEx.of_below hB16 hsW, ⟨ms3, (hB16.block Bs bS3.lt).trans bS3, hmat3.below hB16 (Nat.le_refl _), ?_, Hg3.out, (hB16.block _ bY3.lt).trans bY3⟩, hB3.trans (hB16.mono hB3.size), Nat.le_trans hsW hB16.size, hMk.below hB16 (by omega)⟩
              rw [List.map_append, List.foldl_append, ← HT.out]
              show mTab ms3 = relax k2 (mTab ms3) (p, q)
              unfold relax
              rw [if_neg (by rw [Hb.out]; simp)]
            | true =>
              gi_wp2
              refine wpIn_round_quiet_below hmo (by kernel_rfl) (by kernel_rfl) ?_
              repeat (gi_big_quiet_step (fail))
              refine BigFrame.wpQuietIn_want (fun _ _ _ _ => trivial) rfl ?_
              intro K hK
              gi_big_quiet_op
              gi_big_quiet_call ((gi_at_call 71; exact CallsIn.regrown_of ((callsIn_wide.2 (less_any (A + B) C _)).mono (fun _ _ h => ⟨by rw [h.1, Hles.out], by rw [← h.2]; exact Below.refl _ _⟩))))
              repeat (gi_big_quiet_step (fail))
              refine wpQuietIn_nil ?_
              rintro w16 ⟨⟨d16, os16⟩, hw16⟩
              have hB16 : Below W.heap.size W w16 := by rw [hw16]; exact hB15.trans ((below_regrown w15 d16 os16).mono hB15.size)
              have bS6 := (hB16.block Bs bS3.lt).trans bS3
              have hmat6 := hmat3.below hB16 (Nat.le_refl _)
              have bY6 := (hB16.block _ bY3.lt).trans bY3
              have z0 : w16.cell? ⟨Bx, 0, none⟩ = some (.int .i64 (p : Int)) := by rw [hw16]; exact e0 d16 os16
              have z1 : w16.cell? ⟨Bx, 1, none⟩ = some (.int .i64 (q : Int)) := by rw [hw16]; exact e1 d16 os16
              have z4 : w16.cell? ⟨g, p, none⟩ = some (.slice (some ⟨mp.g, 0, none⟩) n mp.c) := by rw [hw16]; exact e4 d16 os16
              have hs16 := hB16.size
              have z2 : w16.cell? ⟨Bs, 0, none⟩ = some (.slice (some ⟨g, 0, none⟩) n cap) := by rw [hw16]; exact e2 d16 os16
              have z8 := (hmat6.row mp (List.mem_of_getElem? Hmp.out)).cell (mTab_gt Hmp.out Hq3.out hp hq)
              have Hz8 := Lib.hid z8
              clear hw16 e0 e1 e2 e3 e4 e5 e6 e7 e8 y0 y1 y2 y3 y4 y5 y6 y7 y8 z8
              gi_wp2
              refine wpIn_region_heads (late := fun j => j == 11) (S := fun w' => w'.cell? ⟨Bs, 0, none⟩ = some (.slice (some ⟨g, 0, none⟩) n cap) ∧ w'.cell? ⟨Bx, 0, none⟩ = some (.int .i64 (p : Int)) ∧ w'.cell? ⟨Bx, 1, none⟩ = some (.int .i64 (q : Int)) ∧ w'.cell? ⟨g, p, none⟩ = some (.slice (some ⟨mp.g, 0, none⟩) n mp.c)) 11 (fun _ => trivial) hmo (by kernel_rfl) (by kernel_rfl) ⟨z2, z0, z1, z4⟩ ?_
              simp only [List.take_succ_cons, List.take_zero, List.drop_succ_cons, List.drop_zero]
              refine wpHeads_cons (.slice (some ⟨g, 0, none⟩) n cap) rfl (fun w' s => by obtain ⟨s1, s2, s3, s4⟩ := s; go_simp) ?_
              refine wpHeads_cons (.pointer (some ⟨Bx, 0, none⟩)) rfl (fun w' s => by obtain ⟨s1, s2, s3, s4⟩ := s; go_simp) ?_
              refine wpHeads_cons (.int .i64 (p : Int)) rfl (fun w' s => by obtain ⟨s1, s2, s3, s4⟩ := s; go_simp) ?_
              refine wpHeads_cons (.pointer (some ⟨g, p, none⟩)) rfl (fun w' s => by obtain ⟨s1, s2, s3, s4⟩ := s; go_simp) ?_
              refine wpHeads_cons (.slice (some ⟨mp.g, 0, none⟩) n mp.c) rfl (fun w' s => by obtain ⟨s1, s2, s3, s4⟩ := s; go_simp) ?_
              refine wpHeads_cons (.pointer (some ⟨Bx, 1, none⟩)) rfl (fun w' s => by obtain ⟨s1, s2, s3, s4⟩ := s; go_simp) ?_
              refine wpHeads_cons (.int .i64 (q : Int)) rfl (fun w' s => by obtain ⟨s1, s2, s3, s4⟩ := s; go_simp) ?_
              refine wpHeads_cons (.int .i64 A) rfl (fun w' s => by obtain ⟨s1, s2, s3, s4⟩ := s; go_simp) ?_
              refine wpHeads_cons (.int .i64 B) rfl (fun w' s => by obtain ⟨s1, s2, s3, s4⟩ := s; go_simp) ?_
              refine wpHeads_cons (.int .i64 (A + B)) rfl (fun w' s => by obtain ⟨s1, s2, s3, s4⟩ := s; go_simp; rw [IntKind.wrap_i64]; omega) ?_
              refine wpHeads_cons (.pointer (some ⟨mp.g, q, none⟩)) rfl (fun w' s => by obtain ⟨s1, s2, s3, s4⟩ := s; go_simp) ?_
              refine wpHeads_nil ?_
              go_simp
              refine wpTailT_cons rfl (fun K hK => ?_)
              obtain ⟨z8, f8⟩ := Hz8.out
              gi_wp2
              refine hK _ _ (fun h => by cases h) ?_
              clear hK
              refine wpTailT_nil ?_
              go_simp
              have hmem := List.mem_of_getElem? Hmp.out
              have hrow := hmat6.row mp hmem
              have hgw : mp.g < wq.heap.size := by
                have h9 : mp.g ∈ ms3.map MRow.g := List.mem_map.2 ⟨mp, hmem, rfl⟩
                rw [Hg3.out] at h9
                obtain ⟨m9, h10, h11⟩ := List.mem_map.1 h9
                rw [← h11]
                exact Hglt.out m9 h10
              have hbs : Bs ≠ mp.g := Boxed.ne_row bS6 hrow (by decide)
              obtain ⟨w17, hw17⟩ : ∃ w17, w17 = w16.setCell ⟨mp.g, q, none⟩ (.int .i64 (A + B)) := ⟨_, rfl⟩
              have bS7 : Boxed w17 Bs 52 (.slice (some ⟨g, 0, none⟩) n cap) := by rw [hw17]; exact (Below.heap_setCell w16 ⟨mp.g, q, none⟩ _ Bs hbs).trans bS6
              have bY7 : Boxed w17 wq.heap.size 3 (.int .i64 k2) := by rw [hw17]; exact (Below.heap_setCell w16 ⟨mp.g, q, none⟩ _ wq.heap.size (by show wq.heap.size ≠ mp.g; omega)).trans bY6
              have hmat7 : Mat w.heap.size w17 (.slice (some ⟨g, 0, none⟩) n cap) (ms3.set p { mp with xs := mp.xs.set q (A + B) }) := by rw [hw17]; exact Mat.set hmat6 Hmp.out (A + B)
              have hB7 : Below w.heap.size w16 w17 := by rw [hw17]; exact (Below.refl _ w16).setCell (p := ⟨mp.g, q, none⟩) hrow.lo _
              have hko : KeepsOthers w16 w17 := by rw [hw17]; exact KeepsOthers.setCell _ _ _
              have hke : KeepEx (wq.heap.size + 2) (fun j => j ≠ wq.heap.size + 1) w16 w17 := by rw [hw17]; exact KeepEx.setCell (.inr (by show mp.g ≠ wq.heap.size + 1; omega)) _
              have hMk7 : Marks w.heap.size wq.heap.size w17 Ds := by rw [hw17]; exact (hMk.below hB16 (by omega)).setCell (p := ⟨mp.g, q, none⟩) (fun o ho => by obtain ⟨cur, h1, _⟩ := hrow.blk; have h2 : w16.heap[mp.g]? = some o := ho; rw [h1] at h2; cases h2; rfl) _
              have hs7 := hB7.size
              rw [← hw17]
              clear hw17
              have hd7 : Below w17.heap.size w17 w17.drew := (Below.refl _ _).drew
              refine ⟨((KeepsFrom.of_below hB16 _).trans (hko.from _)).trans (KeepsFrom.of_below hd7 _), ((KeepEx.of_below hB16 hsW).trans hke).trans (KeepEx.of_below hd7 (by omega)), ⟨ms3.set p { mp with xs := mp.xs.set q (A + B) }, bS7, hmat7.below hd7 (Nat.le_refl _), ?_, ?_, bY7⟩, ((hB3.trans (hB16.mono hB3.size)).trans hB7).trans (hd7.mono (by have := hB3.size; omega)), by show _ ≤ w17.heap.size; omega, hMk7.below hd7 (by omega)⟩
              · rw [mTab_set Hmp.out, List.map_append, List.foldl_append, ← HT.out]
                show _ = relax k2 (mTab ms3) (p, q)
                unfold relax
                rw [if_pos Hb.out, HsA.out]
              · rw [List.map_set, ← Hg3.out]
                apply List.ext_getElem?
                intro t
                rw [List.getElem?_set]
                split
                · rename_i ht
                  subst ht
                  rw [List.getElem?_map, Hmp.out]
                  split
                  · rfl
                  · rename_i h9
                    have := (List.getElem?_eq_some_iff.1 Hmp.out).1
                    simp at h9
                    omega
                · rfl
          case done =>
            rintro D ys W hD hys ⟨⟨ms3, bS3, hmat3, hT, hg3, bY3⟩, hB3, hsW, hMk⟩ hK
            have hMk2 : Marks w.heap.size W.heap.size W (D :: Ds) := hMk.cons (by omega) (by omega) (Array.getElem?_eq_some_iff.1 hK).1 hK
            have hT2 : mTab ms3 = upto n (diag0 (tabOf rs)) (k2 + 1) := by
              rw [hT, hys, Hms.out, upto_succ]
              rfl
            clear hT
            gi_wp2
            refine ⟨⟨_, _, _, _, _, _, _, _, _, _, _, _, _, _, _, _, _, _, _, _, _, _, _, _, _, _, _, _, _, _, _, _, _, _, _, _, _, _, _, _, _, _, _, _, _, _, _, _, _, _, _, _, _, _, _, _, _, _, _, D :: Ds, ⟨k2 + 1, ms3, ?_, ?_, bS3, hmat3, hT2, hB3, hMk2⟩, rfl⟩, ?_⟩
            · go_num
            · omega
            · simp [intOf]; omega
          case stop =>
            rintro D c pre W _ _ h _
            exact h.elim
        · obtain rfl : n = k2 := by omega
          have hltn : ¬ (n : Int) < (n : Int) := by omega
          have cS := bS.cell
          clear hlt2
          gi_wp2
          refine leaves_marks (B := wq.heap.size) (fun W => Mat w.heap.size W v ms2 ∧ Below w.heap.size w W) (by simp) (fun W D hj hD hd => ⟨hj.1.keptRow (grownBy_putObj' W D _) (fun r er => by cases er; exact ⟨_, hd, rfl⟩), hj.2.grown (grownBy_putObj' W D _) hj.2.size (fun k ek => by cases ek; exact hD)⟩) Ds wq hMk ⟨hmat, hBr⟩ (fun W' hj => ?_)
          refine ⟨.tuple #[v, .int .i64 0], ?_, v, rfl, ms2, hj.1, ?_, hj.2⟩
          · simp [results, Try.f37, go_sem]
          · rw [Hms.out]
            show _ = upto (tabOf rs).length _ _
            rw [Hl.out]

end Go.Proofs.Ytilhmlapbifbbaa
