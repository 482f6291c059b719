/- Walks: the reference's tile, Tile: a tile as bytes. -/
import Derived.Test.YtgfmdgiepomkiaaQck
import Derived.Test.YtgfmdgiepomkiaaTlE
namespace Go.Proofs.Ytgfmdgiepomkiaa
open Go.RowKit Go.Sort
attribute [local go_sem] Instr.index

theorem WriB.apart {B : Nat} {w0 W : World} {v0 v : Value} {n : Nat} {xs : List Int} (h : WriB B w0 v0 W v n xs) {P : Nat} (hne : some P ≠ v0.ownBlock) (hP : P < w0.heap.size) : some P ≠ v.ownBlock := by
  rcases h.app.own with e | e
  · rw [e]; exact hne
  · intro he
    have := e P he.symm
    omega
theorem WriB.kept {B : Nat} {w0 W : World} {v0 v : Value} {n : Nat} {xs : List Int} (h : WriB B w0 v0 W v n xs) {P : Nat} {u : Obj} (hne : some P ≠ v0.ownBlock) (hP : w0.heap[P]? = some u) : W.heap[P]? = some u := hgrown h.app.grown hP (fun e => hne e.symm)
set_option maxRecDepth 100000 in
set_option maxHeartbeats 16000000 in
theorem reftile20_any (cf : Cfg) (tx tz : Int) (a : Option Addr) (n c : Nat) (xs : List (RHd × Rc)) (b : Option Addr) (m d : Nat) (w : World) (hx : SlRc w a n c xs) (hF : TileF cf tx tz (xs.map Prod.snd)) :
    Calls Try.prog 26 #[.agg #[.int .i64 tx, .int .i64 tz, .slice a n c, .slice b m d]] w fun e w' => ∃ v n', e = .returned v ∧ OwnI .u8 5 w.heap.size w' v n' (encs ([tx, tz, (n : Int)] ++ (xs.map Prod.snd).flatMap rcNs)) ∧ Below w.heap.size w w' := by
  have Hl := Lib.hid hx.sl.len
  have hmax := hx.sl.max
  have hle := hx.sl.le
  have HX0 := Lib.hid (fun W (hb' : Below w.heap.size w W) => hx.below hb' (Nat.le_refl _))
  have hx1 := hF.x
  have hz1 := hF.z
  have hn96 : n ≤ 96 := by have := hF.n; rw [List.length_map, Hl.out] at this; exact this
  have HF := Lib.hid hF
  clear hx hF
  have hB : Below w.heap.size w (w.alloc (.cells #[.int .i64 tx, .int .i64 tz, .slice a n c, .slice b m d] 27 (0, 0))) := (Below.refl _ _).alloc (Nat.le_refl _) _
  have hT := World.alloc_heap_new w (.cells #[.int .i64 tx, .int .i64 tz, .slice a n c, .slice b m d] 27 (0, 0))
  obtain ⟨W1, hW1⟩ : ∃ W, W = w.alloc (.cells #[.int .i64 tx, .int .i64 tz, .slice a n c, .slice b m d] 27 (0, 0)) := ⟨_, rfl⟩
  rw [← hW1] at hB hT
  obtain ⟨B, hBd⟩ : ∃ B, B = W1.heap.size := ⟨_, rfl⟩
  have HBd := Lib.hid hBd
  have hB1 : B ≤ W1.heap.size := Nat.le_of_eq hBd
  have hSB : w.heap.size < B := by have := hblt hT; omega
  clear hBd
  have t0 := hcell (k := 0) (v := .int .i64 tx) hT rfl
  have t1 := hcell (k := 1) (v := .int .i64 tz) hT rfl
  have t2 := hcell (k := 2) (v := .slice a n c) hT rfl
  have t3 := hcell (k := 3) (v := .slice b m d) hT rfl
  go_enter Try.func26, Try.ntmps26
  go_upto_region 1 with fail
  rw [← hW1]
  clear hW1
  have hb1 : Below B W1 W1 := Below.refl _ _
  have hne : some w.heap.size ≠ (Value.slice none 0 0).ownBlock := by simp [Value.ownBlock]
  have k0 : nOkB tx := by unfold nOkB; omega
  have k1 : nOkB tz := by unfold nOkB; omega
  have q0 := encB_le k0
  have q1 := encB_le k1
  have HK2 : ∀ x ∈ [tx, tz], nOkB x := fun x hx => by simp only [List.mem_cons, List.not_mem_nil, or_false] at hx; rcases hx with rfl | rfl <;> assumption
  have hs0 : WriB B W1.drew (Value.slice none 0 0) W1.drew (Value.slice none 0 0) 0 [] := WriB.start (OwnI.drewN (OwnI.nil _ _ _ _) 1) (hB1)
  go_region_held3 (fun WW => WW.cell? ⟨w.heap.size, 0, none⟩ = some (.int .i64 tx) ∧ WW.cell? ⟨w.heap.size, 1, none⟩ = some (.int .i64 tz))
    (first
      | assumption
      | exact ⟨t0, t1⟩
      | exact ⟨hw2.cell t0 hne, hw2.cell t1 hne⟩
      | fail)
    (first
      | (go_at_call 59; refine (refputB_w _ (by assumption) B _ _ _ _ _ _ (by assumption) (by omega)).mono ?_; rintro e w2 ⟨v2, rfl, hw2⟩))
  rename_i hH
  clear hH
  obtain ⟨n2, ho2, hn2, hb2⟩ := hw2.fin (l := [tx, tz]) (m := 2) (OwnI.nil .u8 5 B W1) hb1 (by simp [encs]) rfl HK2
  clear hw2 hs0 hne HK2 q0 q1 k0 k1 t0 t1 t2 t3
  have hT2 := hkeepB hb2 hT hSB
  have t2 := hcell (k := 2) (v := .slice a n c) hT2 rfl
  have Hk1 : nOkB (n : Int) := by unfold nOkB; omega
  obtain ⟨w3, v3, rfl, rfl⟩ : ∃ W v, W = w2 ∧ v = v2 := ⟨_, _, rfl, rfl⟩
  go_wp2_with fail
  refine (refputB_1 (n : Int) Hk1 B W1 _ _ _ _ ho2 hb2 hB1 (by omega)).mono ?_
  rintro e w5 ⟨v5, n5, rfl, ho5, hn5, hb5⟩
  have HY0 : Hid ([] ++ encs [tx, tz] ++ encs [(n : Int)] = encs ([tx, tz, (n : Int)] ++ ((xs.take 0).map Prod.snd).flatMap rcNs)) := by show _ = _; simp [encs]
  rw [HY0.out] at ho5
  have hm5 : n5 ≤ 27 := by omega
  clear HY0 t2 hT2 ho2 hb2 hn2 hn5 Hk1
  go_wp2_with fail
  go_loopw [3, 4] (fun bv s wr => ∃ (i l : Nat) (Y : List Int), s = .int .i64 i ∧ i ≤ n ∧ OwnI .u8 5 B wr bv l Y ∧ l ≤ 27 + 20000 * i ∧ Hid (Y = encs ([tx, tz, (n : Int)] ++ ((xs.take i).map Prod.snd).flatMap rcNs)) ∧ Below B W1 wr) (fun _ s _ => n - (intOf s).toNat)
  case atStart => exact ⟨0, n5, _, rfl, Nat.zero_le _, ho5, by omega, rfl, hb5⟩
  case round =>
    clear ho5 hb5 hm5
    obtain ⟨i, l, Y, rfl, hi, ho, hl, HY, hbr⟩ := hrel
    have hTr := hkeepB hbr hT hSB
    have t2 := hcell (k := 2) (v := .slice a n c) hTr rfl
    clear hTr
    by_cases hin : i < n
    case neg =>
      obtain rfl : i = n := by omega
      have hinI : ¬ (i : Int) < (i : Int) := by omega
      have hBE := hB.trans (hbr.mono (by omega))
      rw [List.take_of_length_le (Nat.le_of_eq Hl.out)] at HY
      obtain ⟨ya, yc, rfl, _⟩ := ho.reads
      go_wp2
      go_ret
      exact ⟨_, rfl, ⟨_, HY.out ▸ ho.monoB (by omega)⟩, hBE⟩
    have hinI : (i : Int) < (n : Int) := by omega
    have wi1 : IntKind.i64.wrap ((i : Int) + 1) = ((i + 1 : Nat) : Int) := by rw [IntKind.wrap_i64]; omega
    obtain ⟨⟨hr, rr⟩, hxi⟩ : ∃ x, xs[i]? = some x := ⟨_, List.getElem?_eq_getElem (by rw [Hl.out]; exact hin)⟩
    have er : rcE cf rr = 0 := HF.out.r rr (List.mem_map.2 ⟨_, List.mem_of_getElem? hxi, rfl⟩)
    obtain ⟨rya, ryc, rta, rtc⟩ := hr
    have hny := rcE_ysT er
    obtain ⟨hts, hys⟩ := rc_lens er
    obtain ⟨yb, yo, ey, hyc2⟩ := ((HX0.out _ hB).one hxi).y.at0 hny
    obtain ⟨tb, to_, et, htc2⟩ := ((HX0.out _ hB).one hxi).t.at0 (by rw [hts]; exact hny)
    dsimp only at ey et
    subst ey et
    have htb : tb < B := by
      have h1 := World.block_lt_of_cell? W1 _ (htc2 0 (by rw [hts]; exact hny))
      have := HBd.out
      simpa [this] using h1
    have hyb : yb < B := by
      have h1 := World.block_lt_of_cell? W1 _ (hyc2 0 hny)
      have := HBd.out
      simpa [this] using h1
    clear hyc2 htc2
    have HNY : Hid (encs ([tx, tz, (n : Int)] ++ ((xs.take (i + 1)).map Prod.snd).flatMap rcNs) = Y ++ encs (rcNs rr)) := by show _ = _; rw [map_take_fm hxi, ← List.append_assoc, encsB_append, ← HY.out]
    have hBw : Below w.heap.size w wr := hB.trans (hbr.mono (by omega))
    have hw := HX0.out _ hBw
    have HSR := Lib.hid (fun W (hW : Below B W1 W) => (HX0.out W (hB.trans (hW.mono (by omega)))).one hxi)
    obtain ⟨G, off, rfl, _, _⟩ := hw.sl.at0 (by omega)
    have r0 := hw.at hxi 0 _ rfl
    have r1 := hw.at hxi 1 _ rfl
    have r2 := hw.at hxi 2 _ rfl
    have r3 := hw.at hxi 3 _ rfl
    have r4 := hw.at hxi 4 _ rfl
    have r5 := hw.at hxi 5 _ rfl
    have r6 := hw.at hxi 6 _ rfl
    simp only [Nat.add_zero] at r0
    obtain ⟨g1, g2, g3, g4, g5, g6, g7, g8⟩ := rcBd_iff.1 (rcOk_bd er)
    have HTS := Lib.hid hts
    clear hts
    have q1 : IntKind.i64.wrap (rr.x1 - rr.x0) = rr.x1 - rr.x0 := by rw [IntKind.wrap_i64]; omega
    have q2 : IntKind.i64.wrap (rr.z1 - rr.z0) = rr.z1 - rr.z0 := by rw [IntKind.wrap_i64]; omega
    have HK5 := rcN5_ok er
    have k0 : nOkB rr.x0 := by unfold nOkB; omega
    have k1 : nOkB rr.z0 := by unfold nOkB; omega
    have k2 : nOkB (rr.x1 - rr.x0) := by unfold nOkB; omega
    have k3 : nOkB (rr.z1 - rr.z0) := by unfold nOkB; omega
    have k4 : nOkB rr.area := by unfold nOkB; omega
    have e0 := encB_le k0
    have e1 := encB_le k1
    have e2 := encB_le k2
    have e3 := encB_le k3
    have e4 := encB_le k4
    clear hw HY
    have hRn := World.alloc_heap_new wr (.cells #[.int .i64 rr.x0, .int .i64 rr.z0, .int .i64 rr.x1, .int .i64 rr.z1, .int .i64 rr.area, .slice (some ⟨yb, yo, none⟩) rr.ys.length ryc, .slice (some ⟨tb, to_, none⟩) rr.ts.length rtc] 55 (0, 0))
    have hBr := hbr.size
    have hneP := ho.neB (Nat.le_refl _)
    go_upto_region 7 with fail
    clear r0 r1 r2 r3 r4 r5 r6 t2
    obtain ⟨W4, hW4⟩ : ∃ W, W = wr.alloc (.cells #[.int .i64 rr.x0, .int .i64 rr.z0, .int .i64 rr.x1, .int .i64 rr.z1, .int .i64 rr.area, .slice (some ⟨yb, yo, none⟩) rr.ys.length ryc, .slice (some ⟨tb, to_, none⟩) rr.ts.length rtc] 55 (0, 0)) := ⟨_, rfl⟩
    have hLb : Below wr.heap.size wr (wr.alloc (.cells #[.int .i64 rr.x0, .int .i64 rr.z0, .int .i64 rr.x1, .int .i64 rr.z1, .int .i64 rr.area, .slice (some ⟨yb, yo, none⟩) rr.ys.length ryc, .slice (some ⟨tb, to_, none⟩) rr.ts.length rtc] 55 (0, 0))) := (Below.refl _ _).alloc (Nat.le_refl _) _
    have hz4 : (wr.alloc (.cells #[.int .i64 rr.x0, .int .i64 rr.z0, .int .i64 rr.x1, .int .i64 rr.z1, .int .i64 rr.area, .slice (some ⟨yb, yo, none⟩) rr.ys.length ryc, .slice (some ⟨tb, to_, none⟩) rr.ts.length rtc] 55 (0, 0))).heap.size = wr.heap.size + 1 := by simp
    rw [← hW4] at hRn hLb hz4
    rw [← hW4]
    clear hW4
    have ho4 := ho.below hLb (Nat.le_refl _)
    have hb4 : Below B W1 W4 := hbr.trans (hLb.mono (by omega))
    have hB4 : B ≤ W4.heap.size := by omega
    obtain ⟨P, hP⟩ : ∃ P, P = wr.heap.size := ⟨_, rfl⟩
    rw [← hP] at hRn hneP hz4 ⊢
    have hPB : B ≤ P := by omega
    have hPl : P < W4.heap.size := by omega
    have p0 := hcell (k := 0) (v := .int .i64 rr.x0) hRn rfl
    have p1 := hcell (k := 1) (v := .int .i64 rr.z0) hRn rfl
    have p2 := hcell (k := 2) (v := .int .i64 rr.x1) hRn rfl
    have p3 := hcell (k := 3) (v := .int .i64 rr.z1) hRn rfl
    have p4 := hcell (k := 4) (v := .int .i64 rr.area) hRn rfl
    have HRn := Lib.hid hRn
    clear hRn ho hbr hLb hP hz4
    have hs0 : WriB B W4.drew u3 W4.drew u3 l Y := WriB.start (OwnI.drewN (ho4) 1) (hB4)
    go_region_held3 (fun WW => WW.cell? ⟨P, 0, none⟩ = some (.int .i64 rr.x0) ∧ WW.cell? ⟨P, 1, none⟩ = some (.int .i64 rr.z0) ∧ WW.cell? ⟨P, 2, none⟩ = some (.int .i64 rr.x1) ∧ WW.cell? ⟨P, 3, none⟩ = some (.int .i64 rr.z1) ∧ WW.cell? ⟨P, 4, none⟩ = some (.int .i64 rr.area))
      (first
        | assumption
        | exact ⟨p0, p1, p2, p3, p4⟩
        | exact ⟨hw2.cell p0 hneP, hw2.cell p1 hneP, hw2.cell p2 hneP, hw2.cell p3 hneP, hw2.cell p4 hneP⟩
        | fail)
      (first
        | (go_at_call 59; refine (refputB_w _ (by assumption) B _ _ _ _ _ _ (by assumption) (by omega)).mono ?_; rintro e w2 ⟨v2, rfl, hw2⟩))
    rename_i hH
    clear hH
    have HR5 := Lib.hid (hw2.kept hneP (show W4.drew.heap[P]? = _ from HRn.out))
    have hne5 := hw2.apart hneP (show P < W4.drew.heap.size from hPl)
    obtain ⟨n5, ho5, hn5, hb5⟩ := hw2.fin (l := rcN5 rr) (m := 5) ho4 hb4 (by simp [encs, rcN5]) rfl HK5
    clear hw2 hs0 hneP HK5 HRn ho4 hb4 hB4 e0 e1 e2 e3 e4 k0 k1 k2 k3 k4 p0 p1 p2 p3 p4 hPl
    obtain ⟨w5, v5, rfl, rfl⟩ : ∃ W v, W = w2 ∧ v = v2 := ⟨_, _, rfl, rfl⟩
    obtain ⟨Y5, hY5⟩ : ∃ Z, Z = Y ++ encs (rcN5 rr) := ⟨_, rfl⟩
    rw [← hY5] at ho5
    have HY5 := Lib.hid hY5
    have hm5 : n5 ≤ 27 + 20000 * i + 45 := by omega
    clear hY5 hn5
    go_wp2_with fail
    have hlim : 18 * rr.ys.length ≤ 18432 := by omega
    go_loopw [3, 6] (fun bv s wr => ∃ (k l : Nat) (Z : List Int), s = .int .i64 k ∧ k ≤ rr.ys.length ∧ OwnI .u8 5 B wr bv l Z ∧ l ≤ 27 + 20000 * i + 45 + 18 * k ∧ Hid (Z = Y5 ++ encs (colsN rr k)) ∧ Hid (wr.heap[P]? = some (.cells #[.int .i64 rr.x0, .int .i64 rr.z0, .int .i64 rr.x1, .int .i64 rr.z1, .int .i64 rr.area, .slice (some ⟨yb, yo, none⟩) rr.ys.length ryc, .slice (some ⟨tb, to_, none⟩) rr.ts.length rtc] 55 (0, 0))) ∧ some P ≠ bv.ownBlock ∧ Below B W1 wr) (fun _ s _ => rr.ys.length - (intOf s).toNat)
    case atStart => exact ⟨0, n5, Y5, rfl, Nat.zero_le _, ho5, by omega, by simp [Hid, colsN, encs], HR5.out, hne5, hb5⟩
    case round =>
      clear ho5 hb5 hm5 HR5 hne5
      obtain ⟨k, l6, Z, rfl, hk, ho, hl6, HZ, HR, hneP, hbr⟩ := hrel
      have s5 := hcell (k := 5) (v := .slice (some ⟨yb, yo, none⟩) rr.ys.length ryc) HR.out rfl
      by_cases hkn : k < rr.ys.length
      case neg =>
        obtain rfl : k = rr.ys.length := by omega
        have hknI : ¬ (rr.ys.length : Int) < (rr.ys.length : Int) := by omega
        have HN2 : Hid (Z = encs ([tx, tz, (n : Int)] ++ ((xs.take (i + 1)).map Prod.snd).flatMap rcNs)) := by
          show _ = _
          rw [HNY.out, HZ.out, HY5.out, rcNs, encsB_append, List.append_assoc]
        have hl7 : l6 ≤ 27 + 20000 * (i + 1) := by omega
        obtain ⟨ya, yc, rfl, _⟩ := ho.reads
        clear HNY HZ HY5
        go_wp2
        go_roundw
        case rel => exact ⟨i + 1, l6, Z, by go_num, by omega, ho, hl7, HN2, hbr⟩
        case measure => simp [intOf]; omega
      have hknI : (k : Int) < (rr.ys.length : Int) := by omega
      have wk1 : IntKind.i64.wrap ((k : Int) + 1) = ((k + 1 : Nat) : Int) := by rw [IntKind.wrap_i64]; omega
      obtain ⟨⟨cy1, cy2⟩, ct1, ct2⟩ := rc_cell er hkn
      have HKC := cellN_ok er hkn
      have HZN : Hid (Y5 ++ encs (colsN rr (k + 1)) = Z ++ encs (cellN rr k)) := by show _ = _; rw [colsN_succ, encsB_append, ← List.append_assoc, ← HZ.out]
      have hsr := HSR.out _ hbr
      obtain ⟨yb', yo', ey, hyc⟩ := hsr.y.at0 (by omega)
      cases ey
      obtain ⟨tb', to', et, htc⟩ := hsr.t.at0 (by have := HTS.out; omega)
      cases et
      have y0 := hyc k hkn
      have z0 := htc k (by have := HTS.out; omega)
      have s6 := hcell (k := 6) (v := .slice (some ⟨tb, to_, none⟩) rr.ts.length rtc) HR.out rfl
      obtain ⟨yv, hyv⟩ : ∃ v, v = rr.ys.getD k 0 := ⟨_, rfl⟩
      obtain ⟨tv, htv⟩ : ∃ v, v = rr.ts.getD k 0 := ⟨_, rfl⟩
      unfold cellN at HKC HZN
      rw [← hyv] at cy1 cy2 ct1 y0 HKC HZN
      rw [← htv] at ct1 ct2 z0 HKC HZN
      clear hyv htv hyc htc hsr
      have wd : IntKind.i64.wrap (tv - yv) = tv - yv := by rw [IntKind.wrap_i64]; omega
      have hktN : k < rr.ts.length := by have := HTS.out; omega
      have hktI : (k : Int) < (rr.ts.length : Int) := by omega
      have hk0 : (0 : Int) ≤ (k : Int) := by omega
      have hneT : some tb ≠ u3.ownBlock := fun h => by have := ho.le _ h.symm; omega
      have hneY : some yb ≠ u3.ownBlock := fun h => by have := ho.le _ h.symm; omega
      have hzl : -1099511627776 ≤ yv := by omega
      have hzh : yv ≤ 1099511627776 := by omega
      have k0 : nOkB (zig yv : Int) := HKC _ (by simp)
      have k1 : nOkB (tv - yv) := HKC _ (by simp)
      have e0 := encB_le k0
      have e1 := encB_le k1
      have hBr7 : B ≤ wr.heap.size := by have := hbr.size; omega
      have hPl := hblt HR.out
      go_upto_region 11 with fail
      have hs0 : WriB B wr.drew u3 wr.drew u3 l6 Z := WriB.start (OwnI.drewN (ho) 1) (hBr7)
      go_region_held3 (fun WW => WW.cell? ⟨P, 5, none⟩ = some (.slice (some ⟨yb, yo, none⟩) rr.ys.length ryc) ∧ WW.cell? ⟨P, 6, none⟩ = some (.slice (some ⟨tb, to_, none⟩) rr.ts.length rtc) ∧ WW.cell? ⟨yb, yo + k, none⟩ = some (.int .i64 yv) ∧ WW.cell? ⟨tb, to_ + k, none⟩ = some (.int .i64 tv))
        (first
          | assumption
          | exact ⟨s5, s6, y0, z0⟩
          | exact ⟨hw2.cell s5 hneP, hw2.cell s6 hneP, hw2.cell y0 hneY, hw2.cell z0 hneT⟩
          | fail)
        (first
          | (go_at_call 60; refine (refzig_any _ _ (by assumption) (by assumption)).mono ?_; rintro e wz ⟨rfl, rfl⟩)
          | (go_at_call 59; refine (refputB_w _ (by assumption) B _ _ _ _ _ _ (by assumption) (by omega)).mono ?_; rintro e w2 ⟨v2, rfl, hw2⟩))
      rename_i hH
      clear hH
      have HR7 := Lib.hid (hw2.kept hneP (show wr.drew.heap[P]? = _ from HR.out))
      have hne7 := hw2.apart hneP (show P < wr.drew.heap.size from hPl)
      obtain ⟨l7, ho7, hn7, hb7⟩ := hw2.fin (l := [(zig yv : Int), tv - yv]) (m := 2) ho hbr (by simp [encs]) rfl HKC
      clear hw2 hs0 hneP hneT hneY HR s5 s6 y0 z0 ho hbr
      have hm7 : l7 ≤ 27 + 20000 * i + 45 + 18 * (k + 1) := by omega
      have HZ7 : Hid (Z ++ encs [(zig yv : Int), tv - yv] = Y5 ++ encs (colsN rr (k + 1))) := HZN.out.symm
      obtain ⟨a7, c7, rfl, _⟩ := ho7.reads
      clear HZ HZN hn7
      go_wp2
      go_roundw
      case rel => exact ⟨k + 1, l7, _, by go_num, by omega, ho7, hm7, HZ7, HR7.out, hne7, hb7⟩
      case measure => simp [intOf]; omega

set_option maxRecDepth 100000 in
set_option maxHeartbeats 4000000 in
theorem refTile20_any (cf : Cfg) (tx tz : Int) (a : Option Addr) (n c : Nat) (xs : List (RHd × Rc)) (b : Option Addr) (m d : Nat) (ds : List Dr) (w : World) (hx : SlRc w a n c xs) (hd : SlR drC 6 w b m d ds) :
    Calls Try.prog 9 #[cfgV cf, .agg #[.int .i64 tx, .int .i64 tz, .slice a n c, .slice b m d]] w (TilePost (tlE cf tx tz (xs.map Prod.snd) ds) (tileB cf tx tz (xs.map Prod.snd) ds) w) := by
  have TC := Lib.hid (fun W (hb' : Below w.heap.size w W) => refcheck19_any cf tx tz a n c xs b m d ds W (hx.below hb' (Nat.le_refl _)) (hd.below hb' (Nat.le_refl _)))
  have RT := Lib.hid (fun W (hb' : Below w.heap.size w W) hF => reftile20_any cf tx tz a n c xs b m d W (hx.below hb' (Nat.le_refl _)) hF)
  have Hl := Lib.hid hx.sl.len
  clear hx hd
  obtain ⟨E, hE⟩ : ∃ E, E = tlE cf tx tz (xs.map Prod.snd) ds := ⟨_, rfl⟩
  rw [← hE] at TC ⊢
  have HT0 : Hid (E ≠ 0 → tileB cf tx tz (xs.map Prod.snd) ds = []) := fun h => by unfold tileB; rw [← hE, if_neg h]
  have HT1 : Hid (E = 0 → tileB cf tx tz (xs.map Prod.snd) ds = encs ([tx, tz, (n : Int)] ++ (xs.map Prod.snd).flatMap rcNs)) := fun h => by unfold tileB tileN; rw [← hE, if_pos h, List.length_map, Hl.out]
  have HTF : Hid (E = 0 → TileF cf tx tz (xs.map Prod.snd)) := fun h => tlE_F2 (hE.symm.trans h)
  clear hE
  generalize tileB cf tx tz (xs.map Prod.snd) ds = BB at HT0 HT1 ⊢
  have hB : Below w.heap.size w ((w.alloc (cfO cf)).alloc (.cells #[.int .i64 tx, .int .i64 tz, .slice a n c, .slice b m d] 27 (0, 0))) := ((Below.refl _ _).alloc (Nat.le_refl _) _).alloc (by simp) _
  have hC := halloc (World.alloc_heap_new w (cfO cf)) (.cells #[.int .i64 tx, .int .i64 tz, .slice a n c, .slice b m d] 27 (0, 0))
  have hT := World.alloc_heap_new (w.alloc (cfO cf)) (.cells #[.int .i64 tx, .int .i64 tz, .slice a n c, .slice b m d] 27 (0, 0))
  rw [World.size_alloc] at hT
  obtain ⟨W1, hW1⟩ : ∃ W, W = (w.alloc (cfO cf)).alloc (.cells #[.int .i64 tx, .int .i64 tz, .slice a n c, .slice b m d] 27 (0, 0)) := ⟨_, rfl⟩
  rw [← hW1] at hB hC hT
  dsimp only [cfO, cfgV] at hC hW1 TC ⊢
  have c0 := hcell (k := 0) (v := .int .i64 cf.clear) hC rfl
  have c1 := hcell (k := 1) (v := .int .i64 cf.climb) hC rfl
  have c2 := hcell (k := 2) (v := .int .i64 cf.height) hC rfl
  have c3 := hcell (k := 3) (v := .int .i64 cf.rise) hC rfl
  have c4 := hcell (k := 4) (v := .int .i64 cf.run) hC rfl
  have c5 := hcell (k := 5) (v := .int .i64 cf.w) hC rfl
  have c6 := hcell (k := 6) (v := .int .i64 cf.d) hC rfl
  have t0 := hcell (k := 0) (v := .int .i64 tx) hT rfl
  have t1 := hcell (k := 1) (v := .int .i64 tz) hT rfl
  have t2 := hcell (k := 2) (v := .slice a n c) hT rfl
  have t3 := hcell (k := 3) (v := .slice b m d) hT rfl
  go_enter Try.func9, Try.ntmps9
  go_upto_region 1 with fail
  rw [← hW1]
  clear hW1
  go_wp2_with fail
  refine (TC.out _ hB).mono ?_
  rintro e w2 ⟨rfl, hb2⟩
  have hT2 := hkeep hb2 hT
  have hB2 := hB.trans (hb2.mono hB.size)
  clear c0 c1 c2 c3 c4 c5 c6 t0 t1 t2 t3 hC hT hb2 hB TC
  by_cases hE : E = 0
  case neg =>
    have hEB : (E != 0) = true := by simpa using hE
    have HN := Lib.hid (HT0.out hE)
    clear hE hT2
    go_wp2
    go_ret2
    unfold TilePost
    rw [HN.out]
    exact ⟨_, _, rfl, OwnI.nil _ _ _ _, hB2⟩
  have HBB := Lib.hid (HT1.out hE)
  have HF := Lib.hid (HTF.out hE)
  subst hE
  clear HT0 HT1 HTF
  have t0 := hcell (k := 0) (v := .int .i64 tx) hT2 rfl
  have t1 := hcell (k := 1) (v := .int .i64 tz) hT2 rfl
  have t2 := hcell (k := 2) (v := .slice a n c) hT2 rfl
  have t3 := hcell (k := 3) (v := .slice b m d) hT2 rfl
  clear hT2
  have hs2 := hB2.size
  go_wp2_with fail
  refine (RT.out _ hB2 HF.out).mono ?_
  rintro e w3 ⟨v3, n3, rfl, ho3, hb3⟩
  have hB3 := hB2.trans (hb3.mono hs2)
  obtain ⟨a3, c3, rfl, _⟩ := ho3.reads
  clear t0 t1 t2 t3
  go_wp2
  go_ret2
  unfold TilePost
  rw [HBB.out]
  exact ⟨_, _, rfl, ho3.monoB hs2, hB3⟩
end Go.Proofs.Ytgfmdgiepomkiaa
