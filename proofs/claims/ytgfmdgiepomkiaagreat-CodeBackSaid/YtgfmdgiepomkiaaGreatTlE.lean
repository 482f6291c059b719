/- Walk: code.Tile: a tile as bytes. -/
import Derived.Test.YtgfmdgiepomkiaaGreatTck
import Derived.Test.YtgfmdgiepomkiaaGreatLg
import Derived.Deep.RegionHeld3
namespace Go.Proofs.YtgfmdgiepomkiaaGreat
open Go.RowKit Go.Sort
attribute [local go_sem] Instr.index

theorem rcE_ysT {cf : Cfg} {r : Rc} (h : rcE cf r = 0) : 0 < r.ys.length := rcOk_ys h
def TilePost (E : Int) (L : List Int) (w : World) (e : Ending) (w' : World) : Prop := ∃ v n, e = .returned (.tuple #[v, .int .i64 E]) ∧ OwnI .u8 5 w.heap.size w' v n L ∧ Below w.heap.size w w'
theorem tlE_F2 {cf : Cfg} {tx tz : Int} {rs : List Rc} {ds : List Dr} (h : tlE cf tx tz rs ds = 0) : TileF cf tx tz rs := tlE_F h fun hc => by
 obtain ⟨_, _, _, _, _, _, h7, h8, h9, h10⟩ := tW_facts hc
 omega
theorem map_take_fm {xs : List (RHd × Rc)} {k : Nat} {p : RHd × Rc} (h : xs[k]? = some p) : ((xs.take (k + 1)).map Prod.snd).flatMap rcNs = ((xs.take k).map Prod.snd).flatMap rcNs ++ rcNs p.2 := by
 rw [List.take_add_one, h]
 simp
theorem OwnI.monoB {k : IntKind} {e : TypeId} {B B' : Nat} {w : World} {v : Value} {n : Nat} {xs : List Int} (h : OwnI k e B w v n xs) (hB : B' ≤ B) : OwnI k e B' w v n xs := by
 unfold OwnI at *
 exact ownsRow_mono h hB
set_option maxRecDepth 100000 in
set_option maxHeartbeats 16000000 in
theorem codetile_any (cf : Cfg) (tx tz : Int) (a : Option Addr) (n c : Nat) (xs : List (RHd × Rc)) (b : Option Addr) (m d : Nat) (ds : List Dr) (w : World) (hx : SlRc w a n c xs) (hd : SlR drC 6 w b m d ds) :
  Calls Tryz.prog 11 #[cfgV cf, .agg #[.int .i64 tx, .int .i64 tz, .slice a n c, .slice b m d]] w (TilePost (tlE cf tx tz (xs.map Prod.snd) ds) (tileB cf tx tz (xs.map Prod.snd) ds) w) := by
 have TC := Lib.hid (fun W (hb' : Below w.heap.size w W) => tilecheck_any cf tx tz a n c xs b m d ds W (hx.below hb' (Nat.le_refl _)) (hd.below hb' (Nat.le_refl _)))
 have Hl := Lib.hid hx.sl.len
 have hmax := hx.sl.max
 have hle := hx.sl.le
 have HX0 := Lib.hid (fun W (hb' : Below w.heap.size w W) => hx.below hb' (Nat.le_refl _))
 clear hx hd
 obtain ⟨E, hE⟩ : ∃ E, E = tlE cf tx tz (xs.map Prod.snd) ds := ⟨_, rfl⟩
 rw [← hE] at TC ⊢
 have HT0 : Hid (E ≠ 0 → tileB cf tx tz (xs.map Prod.snd) ds = []) := fun h => by unfold tileB; rw [← hE, if_neg h]
 have HT1 : Hid (E = 0 → tileB cf tx tz (xs.map Prod.snd) ds = encs ([tx, tz, (n : Int)] ++ (xs.map Prod.snd).flatMap rcNs)) := fun h => by unfold tileB tileN; rw [← hE, if_pos h, List.length_map, Hl.out]
 have HTF : Hid (E = 0 → TileF cf tx tz (xs.map Prod.snd)) := fun h => tlE_F2 (hE.symm.trans h)
 clear hE
 generalize tileB cf tx tz (xs.map Prod.snd) ds = BB at HT0 HT1 ⊢
 have hB : Below w.heap.size w ((w.alloc (cfO cf)).alloc (.cells #[.int .i64 tx, .int .i64 tz, .slice a n c, .slice b m d] 32 (0, 0))) := ((Below.refl _ _).alloc (Nat.le_refl _) _).alloc (by simp) _
 have hC := halloc (World.alloc_heap_new w (cfO cf)) (.cells #[.int .i64 tx, .int .i64 tz, .slice a n c, .slice b m d] 32 (0, 0))
 have hT := World.alloc_heap_new (w.alloc (cfO cf)) (.cells #[.int .i64 tx, .int .i64 tz, .slice a n c, .slice b m d] 32 (0, 0))
 rw [World.size_alloc] at hT
 obtain ⟨W1, hW1⟩ : ∃ W, W = (w.alloc (cfO cf)).alloc (.cells #[.int .i64 tx, .int .i64 tz, .slice a n c, .slice b m d] 32 (0, 0)) := ⟨_, rfl⟩
 rw [← hW1] at hB hC hT
 dsimp only [cfO, cfgV] at hC hW1 TC ⊢
 have c0 := hcell (k := 0) (v := .int .i64 cf.clear) hC rfl
 have c1 := hcell (k := 1) (v := .int .i64 cf.climb) hC rfl
 have c2 := hcell (k := 2) (v := .int .i64 cf.height) hC rfl
 have c3 := hcell (k := 3) (v := .int .i64 cf.rise) hC rfl
 have c4 := hcell (k := 4) (v := .int .i64 cf.run) hC rfl
 have c5 := hcell (k := 5) (v := .int .i64 cf.w) hC rfl
 have c6 := hcell (k := 6) (v := .int .i64 cf.d) hC rfl
 have t0 := hcell (k := 0) (v := .int .i64 tx) hT rfl
 have t1 := hcell (k := 1) (v := .int .i64 tz) hT rfl
 have t2 := hcell (k := 2) (v := .slice a n c) hT rfl
 have t3 := hcell (k := 3) (v := .slice b m d) hT rfl
 go_enter Tryz.func11, Tryz.ntmps11
 go_upto_region 1 with fail
 rw [← hW1]
 clear hW1
 go_wp2_with fail
 refine (TC.out _ hB).mono ?_
 rintro e w2 ⟨rfl, hb2⟩
 have hT2 := hkeep hb2 hT
 have hB2 := hB.trans (hb2.mono hB.size)
 clear c0 c1 c2 c3 c4 c5 c6 t0 t1 t2 t3 hC hT hb2 hB TC
 by_cases hE : E = 0
 case neg =>
  have hEB : (E != 0) = true := by simpa using hE
  have HN := Lib.hid (HT0.out hE)
  clear hE hT2
  go_wp2
  go_ret2
  unfold TilePost
  rw [HN.out]
  exact ⟨_, _, rfl, OwnI.nil _ _ _ _, hB2⟩
 have HBB := Lib.hid (HT1.out hE)
 have HF := Lib.hid (HTF.out hE)
 subst hE
 clear HT0 HT1 HTF
 have hS2 := hB2.size
 have hF := HF.out
 have hx1 := hF.x
 have hz1 := hF.z
 have hn96 : n ≤ 96 := by have := hF.n; rw [List.length_map, Hl.out] at this; exact this
 clear hF
 have t0 := hcell (k := 0) (v := .int .i64 tx) hT2 rfl
 have t1 := hcell (k := 1) (v := .int .i64 tz) hT2 rfl
 have t2 := hcell (k := 2) (v := .slice a n c) hT2 rfl
 have t3 := hcell (k := 3) (v := .slice b m d) hT2 rfl
 have H0k : ∀ x ∈ [tx, tz, (n : Int)], nOkB x := by intro x hx; simp only [List.mem_cons, List.not_mem_nil, or_false] at hx; unfold nOkB; omega
 obtain ⟨B, hBd⟩ : ∃ B, B = w2.heap.size := ⟨_, rfl⟩
 have HBd := Lib.hid hBd
 go_upto_region 5 with (first | (go_at_call 19; refine (put_newB B _ 0 [] [tx, tz, (n : Int)] 3 _ w2 rfl rfl (OwnI.nil _ _ _ _) (by omega) H0k (by omega) (by omega)).mono ?_; rintro e w3 ⟨v3, rfl, ho3, hp3⟩))
 have hbr3 : Below B w2 w3 := hp3.below (by omega) (by simp [Value.ownBlock])
 have hn3 : (encs [tx, tz, (n : Int)]).length ≤ 27 := encsB_len (m := 3) rfl H0k
 rw [List.nil_append, Nat.zero_add] at ho3
 clear hp3 H0k t0 t1 t2 t3
 have hT3 := hkeepB hbr3 hT2 (by have := hblt hT2; omega)
 have HT2 := Lib.hid hT2
 clear hT2
 have t2 := hcell (k := 2) (v := .slice a n c) hT3 rfl
 clear hT3
 obtain ⟨n3, hn3d⟩ : ∃ k, k = (encs [tx, tz, (n : Int)]).length := ⟨_, rfl⟩
 rw [← hn3d] at ho3 hn3
 clear hn3d
 go_wp2_with fail
 clear t2
 go_loopw [7, 30] (fun bv s wr => ∃ (i l : Nat) (Y : List Int), s = .int .i64 i ∧ i ≤ n ∧ OwnI .u8 5 B wr bv l Y ∧ l ≤ 27 + 20000 * i ∧ Hid (Y = encs ([tx, tz, (n : Int)] ++ ((xs.take i).map Prod.snd).flatMap rcNs)) ∧ Below B w2 wr) (fun _ s _ => n - (intOf s).toNat)
 case atStart => exact ⟨0, n3, _, rfl, Nat.zero_le _, ho3, by omega, by simp [Hid], hbr3⟩
 case round =>
  clear ho3 hbr3 hn3
  obtain ⟨i, l, Y, rfl, hi, ho, hl, HY, hbr⟩ := hrel
  by_cases hin : i < n
  case neg =>
   obtain rfl : i = n := by omega
   have hinI : ¬ (i : Int) < (i : Int) := by omega
   have HYB : Hid (Y = BB) := by show _ = _; rw [HBB.out, HY.out, List.take_of_length_le (Nat.le_of_eq Hl.out)]
   have hBE := hB2.trans (hbr.mono (by omega))
   obtain ⟨ya, yc, rfl, _⟩ := ho.reads
   go_wp2
   go_ret2
   unfold TilePost
   rw [← HYB.out]
   exact ⟨_, _, rfl, ho.monoB (by omega), hBE⟩
  have hinI : (i : Int) < (n : Int) := by omega
  have wi1 : IntKind.i64.wrap ((i : Int) + 1) = ((i + 1 : Nat) : Int) := by rw [IntKind.wrap_i64]; omega
  obtain ⟨⟨hr, rr⟩, hxi⟩ : ∃ x, xs[i]? = some x := ⟨_, List.getElem?_eq_getElem (by rw [Hl.out]; exact hin)⟩
  have er : rcE cf rr = 0 := HF.out.r rr (List.mem_map.2 ⟨_, List.mem_of_getElem? hxi, rfl⟩)
  obtain ⟨rya, ryc, rta, rtc⟩ := hr
  have hbw0 : Below w.heap.size w w2 := hB2
  have hny := rcE_ysT er
  obtain ⟨hts, hys⟩ := rc_lens er
  obtain ⟨yb, yo, ey, hyc2⟩ := ((HX0.out _ hbw0).one hxi).y.at0 hny
  obtain ⟨tb, to_, et, htc2⟩ := ((HX0.out _ hbw0).one hxi).t.at0 (by rw [hts]; exact hny)
  dsimp only at ey et
  subst ey et
  have htb : tb < B := by
   have h1 := World.block_lt_of_cell? w2 _ (htc2 0 (by rw [hts]; exact hny))
   have := HBd.out
   simpa [this] using h1
  clear hyc2 htc2 hbw0
  have HNY : Hid (encs ([tx, tz, (n : Int)] ++ ((xs.take (i + 1)).map Prod.snd).flatMap rcNs) = Y ++ encs (rcNs rr)) := by show _ = _; rw [map_take_fm hxi, ← List.append_assoc, encsB_append, ← HY.out]
  have hBw : Below w.heap.size w wr := hB2.trans (hbr.mono (by omega))
  have hw := HX0.out _ hBw
  have hsr0 := hw.one hxi
  have HSR := Lib.hid (fun W (hW : Below B w2 W) => (HX0.out W (hB2.trans (hW.mono (by omega)))).one hxi)
  obtain ⟨G, off, rfl, _, _⟩ := hw.sl.at0 (by omega)
  have r0 := hw.at hxi 0 _ rfl
  have r1 := hw.at hxi 1 _ rfl
  have r2 := hw.at hxi 2 _ rfl
  have r3 := hw.at hxi 3 _ rfl
  have r4 := hw.at hxi 4 _ rfl
  have r5 := hw.at hxi 5 _ rfl
  have r6 := hw.at hxi 6 _ rfl
  simp only [Nat.add_zero] at r0
  obtain ⟨u1, u2, u3, u4, u5, u6, u7, u8⟩ := rcBd_iff.1 (rcOk_bd er)
  have HTS := Lib.hid hts
  clear hts
  have q1 : IntKind.i64.wrap (rr.x1 - rr.x0) = rr.x1 - rr.x0 := by rw [IntKind.wrap_i64]; omega
  have q2 : IntKind.i64.wrap (rr.z1 - rr.z0) = rr.z1 - rr.z0 := by rw [IntKind.wrap_i64]; omega
  have HK5 := Lib.hid (rcN5_ok er)
  clear hw HY
  have hRn := World.alloc_heap_new wr (.cells #[.int .i64 rr.x0, .int .i64 rr.z0, .int .i64 rr.x1, .int .i64 rr.z1, .int .i64 rr.area, .slice (some ⟨yb, yo, none⟩) rr.ys.length ryc, .slice (some ⟨tb, to_, none⟩) rr.ts.length rtc] 52 (0, 0))
  have p0 := hcell (k := 0) (v := .int .i64 rr.x0) hRn rfl
  have p1 := hcell (k := 1) (v := .int .i64 rr.z0) hRn rfl
  have p2 := hcell (k := 2) (v := .int .i64 rr.x1) hRn rfl
  have p3 := hcell (k := 3) (v := .int .i64 rr.z1) hRn rfl
  have p4 := hcell (k := 4) (v := .int .i64 rr.area) hRn rfl
  have hBr := hbr.size
  have hneP := ho.neB (Nat.le_refl _)
  go_upto_region 8 with fail
  clear r0 r1 r2 r3 r4 r5 r6
  obtain ⟨W4, hW4⟩ : ∃ W, W = wr.alloc (.cells #[.int .i64 rr.x0, .int .i64 rr.z0, .int .i64 rr.x1, .int .i64 rr.z1, .int .i64 rr.area, .slice (some ⟨yb, yo, none⟩) rr.ys.length ryc, .slice (some ⟨tb, to_, none⟩) rr.ts.length rtc] 52 (0, 0)) := ⟨_, rfl⟩
  have hLb : Below wr.heap.size wr (wr.alloc (.cells #[.int .i64 rr.x0, .int .i64 rr.z0, .int .i64 rr.x1, .int .i64 rr.z1, .int .i64 rr.area, .slice (some ⟨yb, yo, none⟩) rr.ys.length ryc, .slice (some ⟨tb, to_, none⟩) rr.ts.length rtc] 52 (0, 0))) := (Below.refl _ _).alloc (Nat.le_refl _) _
  have hz4 : (wr.alloc (.cells #[.int .i64 rr.x0, .int .i64 rr.z0, .int .i64 rr.x1, .int .i64 rr.z1, .int .i64 rr.area, .slice (some ⟨yb, yo, none⟩) rr.ys.length ryc, .slice (some ⟨tb, to_, none⟩) rr.ts.length rtc] 52 (0, 0))).heap.size = wr.heap.size + 1 := by simp
  rw [← hW4] at hRn hLb hz4 p0 p1 p2 p3 p4
  rw [← hW4]
  clear hW4
  have ho4 := ho.below hLb (Nat.le_refl _)
  have hb4 : Below B w2 W4 := hbr.trans (hLb.mono (by omega))
  have hB4 : B ≤ W4.heap.size := by omega
  obtain ⟨P, hP⟩ : ∃ P, P = wr.heap.size := ⟨_, rfl⟩
  rw [← hP] at hz4
  have HZ4 := Lib.hid hz4
  clear hz4
  rw [← hP] at hRn hneP p0 p1 p2 p3 p4 ⊢
  clear hP
  have HRn := Lib.hid hRn
  clear hRn ho hbr hLb
  go_upto_region 9 with (first | (go_at_call 19; refine (put_newB B _ l Y (rcN5 rr) 5 _ W4 rfl rfl ho4 hB4 HK5.out (by omega) (by omega)).mono ?_; rintro e w5 ⟨v5, rfl, ho5, hp5⟩))
  have hb5 : Below B w2 w5 := hb4.trans (hp5.below hB4 ho4.le)
  have hR5 := hgrown hp5.grown HRn.out (fun h => hneP h.symm)
  have hne5 : some P ≠ v5.ownBlock := by
   rcases hp5.own with h | h
   ·
    rw [h]; exact hneP
   ·
    intro h2; have := h _ h2.symm; have := HZ4.out; omega
  have hl5 : (encs (rcN5 rr)).length ≤ 45 := encsB_len (m := 5) rfl HK5.out
  obtain ⟨l5, hl5d⟩ : ∃ k, k = l + (encs (rcN5 rr)).length := ⟨_, rfl⟩
  rw [← hl5d] at ho5
  have hm5 : l5 ≤ 27 + 20000 * i + 45 := by omega
  clear hl5d hl5 hp5 ho4 hb4 hB4 HZ4 hneP HRn p0 p1 p2 p3 p4 HK5
  obtain ⟨Y5, hY5⟩ : ∃ Z, Z = Y ++ encs (rcN5 rr) := ⟨_, rfl⟩
  rw [← hY5] at ho5
  have HY5 := Lib.hid hY5
  clear hY5
  have p5 := hcell (k := 5) (v := .slice (some ⟨yb, yo, none⟩) rr.ys.length ryc) hR5 rfl
  have HR5 := Lib.hid hR5
  clear hR5
  go_wp2_with fail
  clear p5
  clear hsr0
  have hlim : 18 * rr.ys.length ≤ 18432 := by omega
  go_loopw [7, 56] (fun bv s wr => ∃ (k l : Nat) (Z : List Int), s = .int .i64 k ∧ k ≤ rr.ys.length ∧ OwnI .u8 5 B wr bv l Z ∧ l ≤ 27 + 20000 * i + 45 + 18 * k ∧ Hid (Z = Y5 ++ encs (colsN rr k)) ∧ Hid (wr.heap[P]? = some (.cells #[.int .i64 rr.x0, .int .i64 rr.z0, .int .i64 rr.x1, .int .i64 rr.z1, .int .i64 rr.area, .slice (some ⟨yb, yo, none⟩) rr.ys.length ryc, .slice (some ⟨tb, to_, none⟩) rr.ts.length rtc] 52 (0, 0))) ∧ some P ≠ bv.ownBlock ∧ Below B w2 wr) (fun _ s _ => rr.ys.length - (intOf s).toNat)
  case atStart => exact ⟨0, l5, Y5, rfl, Nat.zero_le _, ho5, by omega, by simp [Hid, colsN, encs], HR5.out, hne5, hb5⟩
  case round =>
   clear ho5 hb5 hm5 HR5 hne5
   obtain ⟨k, l6, Z, rfl, hk, ho, hl6, HZ, HR, hneP, hbr⟩ := hrel
   by_cases hkn : k < rr.ys.length
   case neg =>
    obtain rfl : k = rr.ys.length := by omega
    have hknI : ¬ (rr.ys.length : Int) < (rr.ys.length : Int) := by omega
    have HN2 : Hid (Z = encs ([tx, tz, (n : Int)] ++ ((xs.take (i + 1)).map Prod.snd).flatMap rcNs)) := by
     show _ = _
     rw [HNY.out, HZ.out, HY5.out, rcNs, encsB_append, List.append_assoc]
    have hl7 : l6 ≤ 27 + 20000 * (i + 1) := by omega
    obtain ⟨ya, yc, rfl, _⟩ := ho.reads
    clear HNY HZ HY5
    go_wp2
    go_roundw
    case rel => exact ⟨i + 1, l6, Z, by go_num, by omega, ho, hl7, HN2, hbr⟩
    case measure => simp [intOf]; omega
   have hknI : (k : Int) < (rr.ys.length : Int) := by omega
   have wk1 : IntKind.i64.wrap ((k : Int) + 1) = ((k + 1 : Nat) : Int) := by rw [IntKind.wrap_i64]; omega
   obtain ⟨⟨cy1, cy2⟩, ct1, ct2⟩ := rc_cell er hkn
   have HKC := Lib.hid (cellN_ok er hkn)
   have HZN : Hid (Y5 ++ encs (colsN rr (k + 1)) = Z ++ encs (cellN rr k)) := by show _ = _; rw [colsN_succ, encsB_append, ← List.append_assoc, ← HZ.out]
   have hsr := HSR.out _ hbr
   obtain ⟨yb', yo', ey, hyc⟩ := hsr.y.at0 (by omega)
   cases ey
   obtain ⟨tb', to', et, htc⟩ := hsr.t.at0 (by have := HTS.out; omega)
   cases et
   have y0 := hyc k hkn
   have z0 := htc k (by have := HTS.out; omega)
   have hR := HR.out
   have s6 := hcell (k := 6) (v := .slice (some ⟨tb, to_, none⟩) rr.ts.length rtc) hR rfl
   obtain ⟨yv, hyv⟩ : ∃ v, v = rr.ys.getD k 0 := ⟨_, rfl⟩
   obtain ⟨tv, htv⟩ : ∃ v, v = rr.ts.getD k 0 := ⟨_, rfl⟩
   unfold cellN at HKC HZN
   rw [← hyv] at cy1 cy2 ct1 y0 HKC HZN
   rw [← htv] at ct1 ct2 z0 HKC HZN
   clear hyv htv hyc htc hsr hR
   have wd : IntKind.i64.wrap (tv - yv) = tv - yv := by rw [IntKind.wrap_i64]; omega
   have hktI : (k : Int) < (rr.ts.length : Int) := by have := HTS.out; omega
   have hktN : k < rr.ts.length := by have := HTS.out; omega
   have hk0 : (0 : Int) ≤ (k : Int) := by omega
   go_upto_region 12 with fail
   have hneT : some tb ≠ u7.ownBlock := fun h => by have := ho.le _ h.symm; omega
   have hzl : -1099511627776 ≤ yv := by omega
   have hzh : yv ≤ 1099511627776 := by omega
   have Ho := Lib.hid (OwnI.drewN ho 1)
   have hBr7 : B ≤ wr.heap.size := by have := hbr.size; omega
   clear y0
   go_region_held3 (fun WW => WW.cell? ⟨P, 6, none⟩ = some (.slice (some ⟨tb, to_, none⟩) rr.ts.length rtc) ∧ WW.cell? ⟨tb, to_ + k, none⟩ = some (.int .i64 tv))
    (first
     | assumption
     | exact ⟨s6, z0⟩
     | exact ⟨hp7.grown.cell s6 hneP, hp7.grown.cell z0 hneT⟩
     | (go_split_ands; repeat' apply And.intro
        all_goals (exact cell_pastB (by assumption))))
    (first
     | (go_at_call 20; refine (zig_any _ _ hzl hzh).mono ?_; rintro e wz ⟨rfl, rfl⟩)
     | (go_at_call 19; refine (put_newB B _ l6 Z [(zig yv : Int), tv - yv] 2 _ _ rfl (by simp) Ho.out (by simp; omega) HKC.out (by omega) (by omega)).mono ?_; rintro e w7 ⟨v7, rfl, ho7, hp7⟩))
   rename_i hH
   clear hH
   have hb7 : Below B w2 w7 := hbr.drew.trans (hp7.below (by simpa [World.drew] using hBr7) ho.le)
   have HR7 := Lib.hid (hgrown (w := wr.drew) hp7.grown HR.out (fun h => hneP h.symm))
   have hne7 : some P ≠ v7.ownBlock := by
    rcases hp7.own with h | h
    ·
     rw [h]; exact hneP
    ·
     intro h2
     have h3 := h _ h2.symm
     have h4 := hblt HR.out
     have h5 : wr.heap.size ≤ P := h3
     omega
   have hl7 : (encs [(zig yv : Int), tv - yv]).length ≤ 18 := encsB_len (m := 2) rfl HKC.out
   obtain ⟨l7, hl7d⟩ : ∃ k, k = l6 + (encs [(zig yv : Int), tv - yv]).length := ⟨_, rfl⟩
   rw [← hl7d] at ho7
   have hm7 : l7 ≤ 27 + 20000 * i + 45 + 18 * (k + 1) := by omega
   have HZ7 : Hid (Z ++ encs [(zig yv : Int), tv - yv] = Y5 ++ encs (colsN rr (k + 1))) := HZN.out.symm
   obtain ⟨a7, c7, rfl, _⟩ := ho7.reads
   clear hl7 hl7d hp7 ho hbr hneP hneT HR s6 z0 HZ HZN HKC Ho
   go_wp2
   go_roundw
   case rel => exact ⟨k + 1, l7, _, by go_num, by omega, ho7, hm7, HZ7, HR7.out, hne7, hb7⟩
   case measure => simp [intOf]; omega
end Go.Proofs.YtgfmdgiepomkiaaGreat
