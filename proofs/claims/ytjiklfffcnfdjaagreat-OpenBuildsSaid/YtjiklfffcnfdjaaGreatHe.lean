/- Walks: package raster: a box of columns. -/
import Derived.Test.YtjiklfffcnfdjaaGreatGk
import Derived.Test.YtjiklfffcnfdjaaGreatHd
import Derived.WalkMore
namespace Go.Proofs.YtjiklfffcnfdjaaGreat
open Go.RowKit
attribute [local go_sem] Instr.index

set_option maxHeartbeats 2000000 in
theorem boxmay_any (x z w d : Int) (W : World) : Calls Tryz.prog 26 #[.agg #[.int .i64 x, .int .i64 z, .int .i64 w, .int .i64 d]] W fun e w' => e = .returned (.bool (inBox x z w d)) ∧ Below W.heap.size W w' := by
  obtain ⟨r, hr⟩ : ∃ r, r = inBox x z w d := ⟨_, rfl⟩
  rw [← hr]
  unfold inBox at hr
  have HR := Lib.hid hr
  clear hr
  have hB : Below W.heap.size W (W.alloc (.cells #[.int .i64 x, .int .i64 z, .int .i64 w, .int .i64 d] 62)) := (Below.refl _ _).alloc (Nat.le_refl _) _
  go_enter Tryz.func26, Tryz.ntmps26
  go_wp2
  all_goals
    go_ret
    refine ⟨ret_bool ?_, hB⟩
    rw [HR.out]
    clear HR hB
    grind
/-- What each goes by. -/
structure BoxAt (C T : Nat) (cf : Cfg) (a : Option Addr) (n c : Nat) (xs : List Tr) (w : World) : Prop where
  cfg : w.heap[C]? = some (cfgO cf)
  sl : w.heap[T]? = some (.cells #[.slice a n c] 25 (0, 0))
  xs : SlTr w a n c xs
theorem BoxAt.below {C T : Nat} {cf : Cfg} {a : Option Addr} {n c : Nat} {xs : List Tr} {w w' : World} (h : BoxAt C T cf a n c xs w) {m : Nat} (hb : Below m w w') (hm : w.heap.size ≤ m) : BoxAt C T cf a n c xs w' :=
  ⟨(hb.block _ (Nat.lt_of_lt_of_le (hblt h.cfg) hm)).trans h.cfg, (hb.block _ (Nat.lt_of_lt_of_le (hblt h.sl) hm)).trans h.sl, h.xs.below hb hm⟩
set_option maxHeartbeats 1000000 in
theorem box1_any (cf : Cfg) (C T : Nat) (a : Option Addr) (n c : Nat) (xs : List Tr) (x z : Int) (w : World) (hcf : cfgOk cf = true) (hmay : ∀ t ∈ xs, trMay cf.w cf.d t = true) (hn : n ≤ 200) (hb : BoxAt C T cf a n c xs w) :
    Calls Tryz.prog 28 #[.int .i64 x, .int .i64 z, .pointer (some ⟨C, 0, none⟩), .pointer (some ⟨T, 0, none⟩)] w (colPost (colIn cf xs x z) w) := by
  have CM := Lib.hid (column_any cf C x z a n c xs w hcf hmay hn hb.cfg hb.xs)
  have t0 := hcell (k := 0) (v := .slice a n c) hb.sl rfl
  clear hb hmay hcf
  generalize colIn cf xs x z = R at CM ⊢
  go_enter Tryz.func28, Tryz.ntmps28
  go_wp2_with fail
  refine CM.out.mono ?_
  rintro e w2 ⟨v, rfl, hv, hb2⟩
  clear t0
  go_wp2
  ((try simp only [Exit.inBlock, Exit.then]); refine bodyPost_ret (results_k2 rfl _ _ _) rfl ?_)
  exact ⟨v, rfl, hv, hb2⟩
end Go.Proofs.YtjiklfffcnfdjaaGreat

namespace Go.Proofs.YtjiklfffcnfdjaaGreat
open Go.RowKit
attribute [local go_sem] Instr.index

/-- What is told of each column. -/
def rowsPost (r : List (List Spn) × Int) (w : World) (e : Ending) (w' : World) : Prop :=
  ∃ v, e = .returned (.tuple #[v, .int .i64 r.2]) ∧ OwnRR spnC 3 24 w.heap.size w' v r.1 ∧ Below w.heap.size w w'
theorem info_spns : (Tryz.prog.info? 24).map (fun i => (i.zero, i.size, i.bytes)) = some (some (.slice none 0 0), 1, 24) := by kernel_rfl
set_option maxRecDepth 100000 in
set_option maxHeartbeats 4000000 in
theorem boxeach_any (cf : Cfg) (C T : Nat) (a : Option Addr) (n c : Nat) (xs : List Tr) (x z : Int) (bw bd : Nat) (w : World) (hcf : cfgOk cf = true) (hmay : ∀ t ∈ xs, trMay cf.w cf.d t = true) (hn : n ≤ 200) (hb : BoxAt C T cf a n c xs w)
    (hx : -64 ≤ x ∧ x ≤ 64) (hz : -64 ≤ z ∧ z ≤ 64) (hw : bw ≤ 64) (hd : bd ≤ 64) :
    Calls Tryz.prog 27 #[.agg #[.int .i64 x, .int .i64 z, .int .i64 bw, .int .i64 bd], .func (.func 28) #[] #[.pointer (some ⟨C, 0, none⟩), .pointer (some ⟨T, 0, none⟩)]] w (rowsPost (boxL cf xs x z bw bd) w) := by
  have hmul : bw * bd ≤ 4096 := Nat.mul_le_mul hw hd
  have F := Lib.hid (fun (x z : Int) (W : World) (h : BoxAt C T cf a n c xs W) => box1_any cf C T a n c xs x z W hcf hmay hn h)
  have CO := Lib.hid (fun (k i : Nat) (hi : i < bw) => colOf_at (cf := cf) (xs := xs) (x := x) (z := z) (k := k) hi)
  have HE := Lib.hid (fun (k : Nat) (hk : k < bw * bd) (h : ∀ j, j < k → (colOf cf xs x z bw j).2 = 0) (he : (colOf cf xs x z bw k).2 ≠ 0) => boxL_err hk h he)
  have HO := Lib.hid (fun (h : ∀ j, j < bw * bd → (colOf cf xs x z bw j).2 = 0) => boxL_ok h)
  obtain ⟨R, hR⟩ : ∃ R, R = boxL cf xs x z bw bd := ⟨_, rfl⟩
  rw [← hR] at HE HO ⊢
  clear hR
  obtain ⟨K, hK⟩ : ∃ K : Nat → List Spn × Int, K = colOf cf xs x z bw := ⟨_, rfl⟩
  have CT0 : colsTo cf xs x z bw 0 = [] := rfl
  have CTS : ∀ k, colsTo cf xs x z bw (k + 1) = colsTo cf xs x z bw k ++ [(K k).1] := fun k => by rw [hK]; exact colsTo_succ cf xs x z bw k
  have CTL := colsTo_len cf xs x z bw
  rw [← hK] at CO HE HO
  obtain ⟨CT, hCT⟩ : ∃ CT : Nat → List (List Spn), CT = colsTo cf xs x z bw := ⟨_, rfl⟩
  rw [← hCT] at CT0 CTS CTL HO
  have HCT0 := Lib.hid CT0
  have HCTS := Lib.hid CTS
  have HCTL := Lib.hid CTL
  clear hK hCT CT0 CTS CTL hcf hmay hn
  have hBX := World.alloc_heap_new w (.cells #[.int .i64 x, .int .i64 z, .int .i64 bw, .int .i64 bd] 62)
  have hB : Below w.heap.size w (w.alloc (.cells #[.int .i64 x, .int .i64 z, .int .i64 bw, .int .i64 bd] 62)) := (Below.refl _ _).alloc (Nat.le_refl _) _
  have Hb := Lib.hid (hb.below hB (Nat.le_refl _))
  clear hb
  obtain ⟨ze, hze⟩ : ∃ e, e = z + (bd : Int) := ⟨_, rfl⟩
  obtain ⟨xe, hxe⟩ : ∃ e, e = x + (bw : Int) := ⟨_, rfl⟩
  have hzw : IntKind.i64.wrap (z + (bd : Int)) = ze := by rw [IntKind.wrap_i64]; omega
  have hxw : IntKind.i64.wrap (x + (bw : Int)) = xe := by rw [IntKind.wrap_i64]; omega
  go_enter Tryz.func27, Tryz.ntmps27
  obtain ⟨W1, hW1⟩ : ∃ W1, W1 = w.alloc (.cells #[.int .i64 x, .int .i64 z, .int .i64 bw, .int .i64 bd] 62) := ⟨_, rfl⟩
  rw [← hW1] at hBX hB Hb
  have c0 := hcell (k := 0) (v := .int .i64 x) hBX rfl
  have c1 := hcell (k := 1) (v := .int .i64 z) hBX rfl
  have c2 := hcell (k := 2) (v := .int .i64 bw) hBX rfl
  have c3 := hcell (k := 3) (v := .int .i64 bd) hBX rfl
  go_wp2
  rw [← hW1]
  clear hW1
  go_step3
  go_wp2
  go_step3
  go_wp2
  clear c0 c1 c2 c3
  obtain ⟨b0, hb0⟩ : ∃ b, b = w.heap.size := ⟨_, rfl⟩
  rw [← hb0] at hBX
  have Hb0 := Lib.hid hb0
  clear hb0
  rw [← Hb0.out]
  go_loopw [6, 7] (fun s6 s7 wr => ∃ (k : Nat) (zk : Int), s7 = .int .i64 zk ∧ Hid (zk = z + (k : Int)) ∧ k ≤ bd ∧ OwnRR spnC 3 24 W1.heap.size wr s6 (CT (k * bw)) ∧ Hid (∀ j, j < k * bw → (K j).2 = 0) ∧ Below W1.heap.size W1 wr) (fun _ s7 _ => (ze - intOf s7).toNat)
  case atStart => exact ⟨0, z, rfl, by show _ = _; simp, Nat.zero_le _, by rw [Nat.zero_mul, HCT0.out]; exact OwnRR.nil _ _ _ _ _, fun j hj => by simp at hj, Below.refl _ _⟩
  case round =>
    obtain ⟨k, zk, rfl, Hzk, hk, hown, Hz0, hbr⟩ := hrel
    have hBr := hkeep hbr hBX
    have c0 := hcell (k := 0) (v := .int .i64 x) hBr rfl
    have c1 := hcell (k := 1) (v := .int .i64 z) hBr rfl
    have c2 := hcell (k := 2) (v := .int .i64 bw) hBr rfl
    have c3 := hcell (k := 3) (v := .int .i64 bd) hBr rfl
    by_cases hlt : k < bd
    · have hltI : zk < ze := by have := Hzk.out; omega
      have hz1 : IntKind.i64.wrap (zk + 1) = zk + 1 := by have := Hzk.out; rw [IntKind.wrap_i64]; omega
      have hkb : k * bw + bw ≤ bw * bd := by
        have h1 : (k + 1) * bw ≤ bd * bw := Nat.mul_le_mul_right _ hlt
        rw [Nat.mul_comm bw bd]
        rw [Nat.succ_mul] at h1
        exact h1
      clear hBr
      go_wp2
      clear c0 c1 c2 c3
      go_loopw [6, 8] (fun s6 s8 wq => ∃ (i : Nat) (xi : Int), s8 = .int .i64 xi ∧ Hid (xi = x + (i : Int)) ∧ i ≤ bw ∧ OwnRR spnC 3 24 W1.heap.size wq s6 (CT (k * bw + i)) ∧ Hid (∀ j, j < k * bw + i → (K j).2 = 0) ∧ Below W1.heap.size W1 wq) (fun _ s8 _ => (xe - intOf s8).toNat)
      case atStart => exact ⟨0, x, rfl, by show _ = _; simp, Nat.zero_le _, hown, Hz0.out, hbr⟩
      case round =>
        clear hown Hz0 hbr
        obtain ⟨i, xi, rfl, Hxi, hi, hown, Hz0, hbr⟩ := hrel
        have hBr := hkeep hbr hBX
        have c0 := hcell (k := 0) (v := .int .i64 x) hBr rfl
        have c1 := hcell (k := 1) (v := .int .i64 z) hBr rfl
        have c2 := hcell (k := 2) (v := .int .i64 bw) hBr rfl
        have c3 := hcell (k := 3) (v := .int .i64 bd) hBr rfl
        clear hBr
        by_cases hlti : i < bw
        · have hiI : xi < xe := by have := Hxi.out; omega
          have hx1 : IntKind.i64.wrap (xi + 1) = xi + 1 := by have := Hxi.out; rw [IntKind.wrap_i64]; omega
          have F1 := Lib.hid (F.out xi zk wr (Hb.out.below hbr (Nat.le_refl _)))
          rw [Hxi.out, Hzk.out, ← CO.out k i hlti, ← Hxi.out, ← Hzk.out] at F1
          have HE1 := Lib.hid (HE.out (k * bw + i) (by omega) Hz0.out)
          obtain ⟨q, hq⟩ : ∃ q, q = K (k * bw + i) := ⟨_, rfl⟩
          have hz2 : q.2 = 0 → ∀ j, j < k * bw + (i + 1) → (K j).2 = 0 := by
            intro h0 j hj
            by_cases h : j < k * bw + i
            · exact Hz0.out j h
            · have e : j = k * bw + i := by omega
              rw [e, ← hq]; exact h0
          have HZ2 := Lib.hid hz2
          have HT1 : Hid (CT (k * bw + (i + 1)) = CT (k * bw + i) ++ [q.1]) := by show _ = _; rw [hq]; exact HCTS.out _
          rw [← hq] at F1 HE1
          have hlen := HCTL.out (k * bw + i)
          clear hq hz2
          obtain ⟨qs, qe⟩ := q
          obtain ⟨hs, ho, hr⟩ := hown
          have hlen2 : hs.length = k * bw + i := hr.1.trans hlen
          have holt := ho.lt
          dsimp only at HT1 HE1 HZ2
          go_wp2_with fail
          refine F1.out.mono ?_
          rintro e w5 ⟨v5, rfl, hv5, hb5⟩
          dsimp only
          obtain ⟨a5, k5, rfl, r5⟩ := OwnR.reads spnC_len hv5
          have had := own_addr hv5
          dsimp only at r5
          have ho5 := ho.below hb5 (Nat.le_refl _)
          have hr5 := hr.below hb5 (Nat.le_refl _)
          have hB5 := hbr.trans (hb5.mono hbr.size)
          have hs5 := hB5.size
          have hsz := hb5.size
          clear ho hr hv5 c0 c1 c2 c3 F1
          by_cases g0 : qe = 0
          · subst g0
            go_wp2_with (at_builtin; refine wpList_appR (f := hdC) (sz := 1) (e := 24) (B := W1.heap.size) (n := hs.length) (xs := hs) _ hdC_len hdC_one rfl _ _ 52 rfl (.slice none 0 0) 24 Tryz.underlying52 info_spns rfl (by decide) (⟨a5, qs.length, k5⟩ : Hd) 24 ho5 rfl rfl (by omega) (by omega) hs5 ?_; intro vq wq hownq hAppd)
            have hBq := (Below.refl W1.heap.size w5).grown hAppd.grown hs5 (fun j hj => ho5.le j hj)
            go_roundw
            case rel => first | exact ⟨i + 1, xi + 1, rfl, by show _ = _; have := Hxi.out; push_cast; omega, by omega, by rw [HT1.out]; exact OwnRR.app (h := ⟨a5, qs.length, k5⟩) hr5 r5 (fun ad hh => ⟨by have := (had ad hh).1; have := hbr.size; omega, (had ad hh).2, fun e => by have := (holt _ e).2; have := (had ad hh).1; omega⟩) (by simpa using hownq) hAppd, HZ2.out (by first | rfl | trivial), hB5.trans hBq⟩ | ((repeat apply Exists.intro); refine ⟨⟨i + 1, xi + 1, rfl, by show _ = _; have := Hxi.out; push_cast; omega, by omega, by rw [HT1.out]; exact OwnRR.app (h := ⟨a5, qs.length, k5⟩) hr5 r5 (fun ad hh => ⟨by have := (had ad hh).1; have := hbr.size; omega, (had ad hh).2, fun e => by have := (holt _ e).2; have := (had ad hh).1; omega⟩) (by simpa using hownq) hAppd, HZ2.out (by first | rfl | trivial), hB5.trans hBq⟩, ?_⟩; (repeat' apply And.intro) <;> rfl)
            case measure => simp [intOf]; omega
          · have g0' : (qe != 0) = true := by simpa using g0
            have hR := HE1.out g0
            have hB9 := hB.trans (hB5.mono hB.size)
            subst hR
            go_wp2
            (try rw [Exit.noGoto_ret])
            refine bodyPost_ret (results_k2 rfl _ _ _) rfl ?_
            exact ⟨_, rfl, OwnRR.nil _ _ _ _ _, hB9⟩
        · have hiI : ¬ xi < xe := by have := Hxi.out; omega
          obtain rfl : i = bw := by omega
          go_wp2
          go_roundw
          case rel => first | exact ⟨k + 1, zk + 1, rfl, by show _ = _; have := Hzk.out; push_cast; omega, by omega, by rw [Nat.succ_mul]; exact hown, by rw [Nat.succ_mul]; exact Hz0.out, hbr⟩ | ((repeat apply Exists.intro); refine ⟨⟨k + 1, zk + 1, rfl, by show _ = _; have := Hzk.out; push_cast; omega, by omega, by rw [Nat.succ_mul]; exact hown, by rw [Nat.succ_mul]; exact Hz0.out, hbr⟩, ?_⟩; (repeat' apply And.intro) <;> rfl)
          case measure => simp [intOf]; omega
    · have hltI : ¬ zk < ze := by have := Hzk.out; omega
      obtain rfl : k = bd := by omega
      have hR : R = (CT (bw * k), 0) := HO.out (by rw [Nat.mul_comm]; exact Hz0.out)
      rw [Nat.mul_comm] at hown
      have hB9 := hB.trans (hbr.mono hB.size)
      have hown2 := hown.mono hB.size
      subst hR
      go_wp2
      refine bodyPost_ret (results_k2 rfl _ _ _) rfl ?_
      exact ⟨_, rfl, hown2, hB9⟩
end Go.Proofs.YtjiklfffcnfdjaaGreat

namespace Go.Proofs.YtjiklfffcnfdjaaGreat
open Go.RowKit
attribute [local go_sem] Instr.index

set_option maxRecDepth 100000 in
set_option maxHeartbeats 4000000 in
theorem box_any (cf : Cfg) (a : Option Addr) (n c : Nat) (xs : List Tr) (x z bw bd : Int) (w : World) (hx : SlTr w a n c xs) :
    Calls Tryz.prog 16 #[cfgV cf, .slice a n c, .int .i64 x, .int .i64 z, .int .i64 bw, .int .i64 bd] w (rowsPost (boxR cf xs x z bw bd) w) := by
  have MY := Lib.hid (fun W hW => rmay_any cf a n c xs W hW)
  have BM := Lib.hid (fun W => boxmay_any x z bw bd W)
  have Hl := Lib.hid hx.len
  have hC := halloc (halloc (World.alloc_heap_new w (cfgO cf)) (.cells #[.slice a n c] 25)) (.cells #[.int .i64 x, .int .i64 z, .int .i64 bw, .int .i64 bd] 62)
  have hT := halloc (World.alloc_heap_new (w.alloc (cfgO cf)) (.cells #[.slice a n c] 25)) (.cells #[.int .i64 x, .int .i64 z, .int .i64 bw, .int .i64 bd] 62)
  have hX := World.alloc_heap_new ((w.alloc (cfgO cf)).alloc (.cells #[.slice a n c] 25)) (.cells #[.int .i64 x, .int .i64 z, .int .i64 bw, .int .i64 bd] 62)
  have hB : Below w.heap.size w (((w.alloc (cfgO cf)).alloc (.cells #[.slice a n c] 25)).alloc (.cells #[.int .i64 x, .int .i64 z, .int .i64 bw, .int .i64 bd] 62)) := (((Below.refl _ _).alloc (Nat.le_refl _) _).alloc (by simp) _).alloc (by simp; omega) _
  have hS := ((hx.alloc (cfgO cf)).alloc (.cells #[.slice a n c] 25)).alloc (.cells #[.int .i64 x, .int .i64 z, .int .i64 bw, .int .i64 bd] 62)
  simp only [World.size_alloc] at hT hX
  clear hx
  obtain ⟨R, hR⟩ : ∃ R, R = boxR cf xs x z bw bd := ⟨_, rfl⟩
  rw [← hR]
  unfold boxR at hR
  by_cases h0 : colMay cf xs = 0
  · rw [if_neg (by simpa using h0)] at hR
    obtain ⟨hcf, hn, hmay⟩ := colMay_zero.1 h0
    rw [h0] at MY
    clear h0
    cases hin : inBox x z bw bd with
    | false =>
      rw [hin] at hR BM
      have hR2 : R = ([], 2) := hR
      subst hR2
      clear hR hcf hn hmay
      obtain ⟨cl, climb, height, rise, run, cw, cd⟩ := cf
      dsimp only [cfgO, cfgV] at MY hC hT hX hB hS ⊢
      go_enter Tryz.func16, Tryz.ntmps16
      go_wp2_with fail
      refine (MY.out _ hS).mono ?_
      rintro e w1 ⟨rfl, hb1⟩
      have hX1 := hkeep hb1 hX
      have hB1 := hB.trans (hb1.mono hB.size)
      have d0 := hcell (k := 0) (v := .int .i64 x) hX1 rfl
      have d1 := hcell (k := 1) (v := .int .i64 z) hX1 rfl
      have d2 := hcell (k := 2) (v := .int .i64 bw) hX1 rfl
      have d3 := hcell (k := 3) (v := .int .i64 bd) hX1 rfl
      clear hC hT hX hB hS hb1
      go_wp2_with fail
      refine (BM.out _).mono ?_
      rintro e w2 ⟨rfl, hb2⟩
      have hB2 := hB1.trans (hb2.mono hB1.size)
      clear d0 d1 d2 d3
      go_wp2
      ((try simp only [Exit.inBlock, Exit.then]); refine bodyPost_ret (results_k2 rfl _ _ _) rfl ?_)
      exact ⟨_, rfl, OwnRR.nil _ _ _ _ _, hB2⟩
    | true =>
      rw [hin] at hR BM
      have hR2 : R = boxL cf xs x z bw.toNat bd.toNat := hR
      subst hR2
      obtain ⟨i1, i2, i3, i4, i5, i6, i7, i8⟩ := inBox_iff.1 hin
      obtain ⟨nw, rfl⟩ := Int.eq_ofNat_of_zero_le i5
      obtain ⟨nd, rfl⟩ := Int.eq_ofNat_of_zero_le i6
      rw [Int.toNat_natCast, Int.toNat_natCast]
      have EA := Lib.hid (fun (C T : Nat) (W : World) (hb : BoxAt C T cf a n c xs W) => boxeach_any cf C T a n c xs x z nw nd W hcf hmay (by rw [← Hl.out]; exact hn) hb ⟨i1, i3⟩ ⟨i2, i4⟩ (by omega) (by omega))
      generalize boxL cf xs x z nw nd = R at EA ⊢
      clear hR hcf hn hmay hin i1 i2 i3 i4 i5 i6 i7 i8
      obtain ⟨cl, climb, height, rise, run, cw, cd⟩ := cf
      dsimp only [cfgO, cfgV] at MY hC hT hX hB hS ⊢
      go_enter Tryz.func16, Tryz.ntmps16
      go_wp2_with fail
      refine (MY.out _ hS).mono ?_
      rintro e w1 ⟨rfl, hb1⟩
      have hX1 := hkeep hb1 hX
      have hC1 := hkeep hb1 hC
      have hT1 := hkeep hb1 hT
      have hS1 := hS.below hb1 (Nat.le_refl _)
      have hB1 := hB.trans (hb1.mono hB.size)
      have d0 := hcell (k := 0) (v := .int .i64 x) hX1 rfl
      have d1 := hcell (k := 1) (v := .int .i64 z) hX1 rfl
      have d2 := hcell (k := 2) (v := .int .i64 nw) hX1 rfl
      have d3 := hcell (k := 3) (v := .int .i64 nd) hX1 rfl
      clear hC hT hX hB hS hb1 MY
      go_wp2_with fail
      refine (BM.out _).mono ?_
      rintro e w2 ⟨rfl, hb2⟩
      have hX2 := hkeep hb2 hX1
      have hC2 := hkeep hb2 hC1
      have hT2 := hkeep hb2 hT1
      have hS2 := hS1.below hb2 (Nat.le_refl _)
      have hB2 := hB1.trans (hb2.mono hB1.size)
      clear d0 d1 d2 d3 hX1 hC1 hT1 hS1 hB1 hb2 BM
      have d0 := hcell (k := 0) (v := .int .i64 x) hX2 rfl
      have d1 := hcell (k := 1) (v := .int .i64 z) hX2 rfl
      have d2 := hcell (k := 2) (v := .int .i64 nw) hX2 rfl
      have d3 := hcell (k := 3) (v := .int .i64 nd) hX2 rfl
      go_wp2_with fail
      refine (EA.out _ _ _ ⟨hC2, hT2, hS2⟩).mono ?_
      rintro e w3 ⟨v, rfl, hv, hb3⟩
      have hv3 := hv.mono hB2.size
      have hB3 := hB2.trans (hb3.mono hB2.size)
      clear d0 d1 d2 d3 hX2 hC2 hT2 hS2 hv hB2 hb3
      go_wp2
      ((try simp only [Exit.inBlock, Exit.then]); refine bodyPost_ret (results_k2 rfl _ _ _) rfl ?_)
      exact ⟨_, rfl, hv3, hB3⟩
  · rw [if_pos h0] at hR
    obtain ⟨m, hm⟩ : ∃ m, m = colMay cf xs := ⟨_, rfl⟩
    rw [← hm] at MY hR h0
    clear hm
    have h0' : (m != 0) = true := by simpa using h0
    subst hR
    obtain ⟨cl, climb, height, rise, run, cw, cd⟩ := cf
    dsimp only [cfgO, cfgV] at MY hC hT hX hB hS ⊢
    go_enter Tryz.func16, Tryz.ntmps16
    go_wp2_with fail
    refine (MY.out _ hS).mono ?_
    rintro e w1 ⟨rfl, hb1⟩
    have hB1 := hB.trans (hb1.mono hB.size)
    clear hC hT hX hB hS hb1
    go_wp2
    ((try simp only [Exit.inBlock, Exit.then]); refine bodyPost_ret (results_k2 rfl _ _ _) rfl ?_)
    exact ⟨_, rfl, OwnRR.nil _ _ _ _ _, hB1⟩
end Go.Proofs.YtjiklfffcnfdjaaGreat
