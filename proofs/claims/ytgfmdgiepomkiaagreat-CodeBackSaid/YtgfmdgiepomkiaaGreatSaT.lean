/- Walks: the reference's Same of rectangles and of tiles, at what reads the same. -/
import Derived.Test.YtgfmdgiepomkiaaGreatKm
import Derived.Test.YtgfmdgiepomkiaaGreatKl
import Derived.Test.YtgfmdgiepomkiaaGreatHb
import Derived.Test.YtgfmdgiepomkiaaGreatKo
namespace Go.Proofs.YtgfmdgiepomkiaaGreat
open Go.RowKit Go.Sort
attribute [local go_sem] Instr.index

theorem casT10 {P : (i : Nat) → i < 10 → Prop} (h0 : P 0 (by decide)) (h1 : P 1 (by decide)) (h2 : P 2 (by decide)) (h3 : P 3 (by decide)) (h4 : P 4 (by decide)) (h5 : P 5 (by decide)) (h6 : P 6 (by decide)) (h7 : P 7 (by decide)) (h8 : P 8 (by decide)) (h9 : P 9 (by decide)) (i : Nat) (h : i < 10) : P i h := by
 by_cases e : i < 5
 ·
  rcases (by omega : i = 0 ∨ i = 1 ∨ i = 2 ∨ i = 3 ∨ i = 4) with rfl | rfl | rfl | rfl | rfl <;> assumption
 ·
  rcases (by omega : i = 5 ∨ i = 6 ∨ i = 7 ∨ i = 8 ∨ i = 9) with rfl | rfl | rfl | rfl | rfl <;> assumption
theorem drewN_below (w : World) (k : Nat) : Below w.heap.size w (w.drewN k) := below_drewN (Below.refl _ _) k
set_option maxRecDepth 100000 in
set_option maxHeartbeats 8000000 in
theorem sameone17_same (h h' : RHd) (r : Rc) (w : World) (hs : RcSl w h r) (hs' : RcSl w h' r) :
  Calls Tryz.prog 62 #[rcV h r, rcV h' r] w fun e w' => e = .returned (.bool true) ∧ Below w.heap.size w w' := by
 have HY := Lib.hid (fun W (hb : Below w.heap.size w W) => ints01_any _ _ _ _ _ _ _ _ W (hs.below hb (Nat.le_refl _)).y (hs'.below hb (Nat.le_refl _)).y)
 have HT := Lib.hid (fun W (hb : Below w.heap.size w W) => ints01_any _ _ _ _ _ _ _ _ W (hs.below hb (Nat.le_refl _)).t (hs'.below hb (Nat.le_refl _)).t)
 clear hs hs'
 dsimp only [rcV]
 have hB : Below w.heap.size w ((w.alloc (rcO h r)).alloc (rcO h' r)) := ((Below.refl _ _).alloc (Nat.le_refl _) _).alloc (by simp) _
 have h1 := halloc (World.alloc_heap_new w (rcO h r)) (rcO h' r)
 have h2 := World.alloc_heap_new (w.alloc (rcO h r)) (rcO h' r)
 rw [World.size_alloc] at h2
 obtain ⟨A, hA⟩ : ∃ A, A = w.heap.size := ⟨_, rfl⟩
 obtain ⟨A2, hA2⟩ : ∃ B, B = A + 1 := ⟨_, rfl⟩
 obtain ⟨W1, hW1⟩ : ∃ W, W = (w.alloc (rcO h r)).alloc (rcO h' r) := ⟨_, rfl⟩
 rw [← hW1] at hB h1 h2
 rw [← hA] at h1
 rw [← hA, ← hA2] at h2
 dsimp only [rcO, rcV] at h1 h2 hW1
 go_enter Tryz.func62, Tryz.ntmps62
 go_upto_region 1 with fail
 rw [← hW1, ← hA, ← hA2]
 clear hW1 hA hA2
 have p0 := hcell (k := 0) (v := .int .i64 r.x0) h1 rfl
 have p1 := hcell (k := 1) (v := .int .i64 r.z0) h1 rfl
 have p2 := hcell (k := 2) (v := .int .i64 r.x1) h1 rfl
 have p3 := hcell (k := 3) (v := .int .i64 r.z1) h1 rfl
 have p4 := hcell (k := 4) (v := .int .i64 r.area) h1 rfl
 have p5 := hcell (k := 5) (v := .slice h.ya r.ys.length h.yc) h1 rfl
 have p6 := hcell (k := 6) (v := .slice h.ta r.ts.length h.tc) h1 rfl
 have q0 := hcell (k := 0) (v := .int .i64 r.x0) h2 rfl
 have q1 := hcell (k := 1) (v := .int .i64 r.z0) h2 rfl
 have q2 := hcell (k := 2) (v := .int .i64 r.x1) h2 rfl
 have q3 := hcell (k := 3) (v := .int .i64 r.z1) h2 rfl
 have q4 := hcell (k := 4) (v := .int .i64 r.area) h2 rfl
 have q5 := hcell (k := 5) (v := .slice h'.ya r.ys.length h'.yc) h2 rfl
 have q6 := hcell (k := 6) (v := .slice h'.ta r.ts.length h'.tc) h2 rfl
 go_wp2_with fail
 refine (HY.out _ hB).mono ?_
 rintro e w2 ⟨rfl, k, rfl⟩
 have hB2 := hB.trans ((drewN_below W1 k).mono hB.size)
 have h1 := hkeep (drewN_below W1 k) h1
 have h2 := hkeep (drewN_below W1 k) h2
 clear p0 p1 p2 p3 p4 p5 p6 q0 q1 q2 q3 q4 q5 q6
 have p0 := hcell (k := 0) (v := .int .i64 r.x0) h1 rfl
 have p1 := hcell (k := 1) (v := .int .i64 r.z0) h1 rfl
 have p2 := hcell (k := 2) (v := .int .i64 r.x1) h1 rfl
 have p3 := hcell (k := 3) (v := .int .i64 r.z1) h1 rfl
 have p4 := hcell (k := 4) (v := .int .i64 r.area) h1 rfl
 have p5 := hcell (k := 5) (v := .slice h.ya r.ys.length h.yc) h1 rfl
 have p6 := hcell (k := 6) (v := .slice h.ta r.ts.length h.tc) h1 rfl
 have q0 := hcell (k := 0) (v := .int .i64 r.x0) h2 rfl
 have q1 := hcell (k := 1) (v := .int .i64 r.z0) h2 rfl
 have q2 := hcell (k := 2) (v := .int .i64 r.x1) h2 rfl
 have q3 := hcell (k := 3) (v := .int .i64 r.z1) h2 rfl
 have q4 := hcell (k := 4) (v := .int .i64 r.area) h2 rfl
 have q5 := hcell (k := 5) (v := .slice h'.ya r.ys.length h'.yc) h2 rfl
 have q6 := hcell (k := 6) (v := .slice h'.ta r.ts.length h'.tc) h2 rfl
 simp only [decide_true]
 go_wp2_with fail
 refine (HT.out _ hB2).mono ?_
 rintro e w3 ⟨rfl, k2, rfl⟩
 have hB3 := hB2.trans ((drewN_below (W1.drewN k) k2).mono hB2.size)
 clear p0 p1 p2 p3 p4 p5 p6 q0 q1 q2 q3 q4 q5 q6
 simp only [decide_true]
 go_wp2
 go_ret
 exact ⟨rfl, by rwa [World.drewN_drewN] at hB3⟩
set_option maxRecDepth 100000 in
set_option maxHeartbeats 8000000 in
theorem same17_same (a b : Option Addr) (n c d : Nat) (xs ys : List (RHd × Rc)) (w : World) (hx : SlRc w a n c xs) (hy : SlRc w b n d ys) (he : xs.map Prod.snd = ys.map Prod.snd) :
  Calls Tryz.prog 35 #[.slice a n c, .slice b n d] w fun e w' => e = .returned (.bool true) ∧ Below w.heap.size w w' := by
 have Hl := Lib.hid hx.sl.len
 have Hm := Lib.hid hy.sl.len
 have hle := hx.sl.le
 have hmax := hx.sl.max
 have HX := Lib.hid (fun W (hb' : Below w.heap.size w W) => hx.below hb' (Nat.le_refl _))
 have HY := Lib.hid (fun W (hb' : Below w.heap.size w W) => hy.below hb' (Nat.le_refl _))
 have HE := Lib.hid he
 clear hx hy he
 go_enter Tryz.func35, Tryz.ntmps35
 go_wp2
 go_loopw [5] (fun i wr => ∃ k : Nat, i = .int .i64 k ∧ k ≤ n ∧ Below w.heap.size w wr) (fun i _ => n - (intOf i).toNat)
 case atStart => exact ⟨0, rfl, Nat.zero_le _, Below.refl _ _⟩
 case round =>
 obtain ⟨k, rfl, hk, hb⟩ := hrel
 by_cases hlt : k < n
 case neg =>
  obtain rfl : k = n := by omega
  have hI : ¬ (k : Int) < (k : Int) := by omega
  go_wp2
  go_ret
  exact ⟨rfl, hb⟩
 have hI : (k : Int) < (n : Int) := by omega
 have wi1 : IntKind.i64.wrap ((k : Int) + 1) = ((k + 1 : Nat) : Int) := by rw [IntKind.wrap_i64]; omega
 obtain ⟨⟨hx_, rr⟩, hxi⟩ : ∃ x, xs[k]? = some x := ⟨_, List.getElem?_eq_getElem (by rw [Hl.out]; exact hlt)⟩
 obtain ⟨⟨hy_, r2⟩, hyi⟩ : ∃ x, ys[k]? = some x := ⟨_, List.getElem?_eq_getElem (by rw [Hm.out]; exact hlt)⟩
 obtain rfl : r2 = rr := by
  have e1 : (xs.map Prod.snd)[k]? = some rr := by rw [List.getElem?_map, hxi]; rfl
  have e2 : (ys.map Prod.snd)[k]? = some r2 := by rw [List.getElem?_map, hyi]; rfl
  rw [HE.out, e2] at e1
  exact Option.some.inj e1
 obtain ⟨rr, hrr⟩ : ∃ x, x = r2 := ⟨_, rfl⟩
 subst hrr
 obtain ⟨G, off, rfl, _, _⟩ := (HX.out wr hb).sl.at0 (by omega)
 obtain ⟨G2, off2, rfl, _, _⟩ := (HY.out wr hb).sl.at0 (by omega)
 go_wp2_with fail
 refine wp_region_det ([none, none, none, none, none, none, none, none, none, none, none, none, none, none, none, none, none, some 0, some 1, some 2, some 3, some 4, some 5, some 6, some 7, some 8, some 9]) [fun v _ => v = .slice (some ⟨G, off, none⟩) n c,
    fun v _ => v = .int .i64 (k : Nat),
    fun v _ => v = .pointer (some ⟨G, off + k * 7, none⟩),
    fun v _ => v = .agg #[.int .i64 rr.x0, .int .i64 rr.z0, .int .i64 rr.x1, .int .i64 rr.z1, .int .i64 rr.area, .slice hx_.ya rr.ys.length hx_.yc, .slice hx_.ta rr.ts.length hx_.tc],
    fun v _ => v = .slice (some ⟨G2, off2, none⟩) n d,
    fun v _ => v = .int .i64 (k : Nat),
    fun v _ => v = .pointer (some ⟨G2, off2 + k * 7, none⟩),
    fun v _ => v = .agg #[.int .i64 rr.x0, .int .i64 rr.z0, .int .i64 rr.x1, .int .i64 rr.z1, .int .i64 rr.area, .slice hy_.ya rr.ys.length hy_.yc, .slice hy_.ta rr.ts.length hy_.tc],
    fun v _ => v = .bool true,
    fun v _ => v = .bool false] (by kernel_rfl) (by kernel_rfl) (by kernel_rfl) (by kernel_rfl) ?_ ?_ ?_
 ·
  refine List.forall_mem_cons.2 ⟨fun _ _ _ h _ => h, List.forall_mem_cons.2 ⟨fun _ _ _ h _ => h, List.forall_mem_cons.2 ⟨fun _ _ _ h _ => h, List.forall_mem_cons.2 ⟨fun _ _ _ h _ => h, List.forall_mem_cons.2 ⟨fun _ _ _ h _ => h, List.forall_mem_cons.2 ⟨fun _ _ _ h _ => h, List.forall_mem_cons.2 ⟨fun _ _ _ h _ => h, List.forall_mem_cons.2 ⟨fun _ _ _ h _ => h, List.forall_mem_cons.2 ⟨fun _ _ _ h _ => h, List.forall_mem_cons.2 ⟨fun _ _ _ h _ => h, List.forall_mem_nil _⟩⟩⟩⟩⟩⟩⟩⟩⟩⟩
 ·
  intro Q' K t vals wi hoff hon hB i hlt
  have hlt : i < 10 := hlt
  cases i, hlt using casT10
  ·
   intro hS hK
   have g0 : t[(0 : Nat)]? = some (.slice (some ⟨G, off, none⟩) n c) := hoff 0 _ rfl rfl
   clear hoff hon hS
   refine wpOp_of rfl rfl ?_
   go_simp
   exact hK.out _ _ rfl (Below.refl _ _)
  ·
   intro hS hK
   have g5 : t[(5 : Nat)]? = some (.int .i64 (k : Nat)) := hoff 5 _ rfl rfl
   clear hoff hon hS
   refine wpOp_of rfl rfl ?_
   go_simp
   exact hK.out _ _ rfl (Below.refl _ _)
  ·
   intro hS hK
   have g17 : t[(17 : Nat)]? = some (.slice (some ⟨G, off, none⟩) n c) := (hon 0 17 rfl).trans (congrArg some (hS 0 (by kernel_rfl)))
   have g18 : t[(18 : Nat)]? = some (.int .i64 (k : Nat)) := (hon 1 18 rfl).trans (congrArg some (hS 1 (by kernel_rfl)))
   clear hoff hon hS
   refine wpOp_of rfl rfl ?_
   go_simp
   exact hK.out _ _ rfl (Below.refl _ _)
  ·
   intro hS hK
   have g19 : t[(19 : Nat)]? = some (.pointer (some ⟨G, off + k * 7, none⟩)) := (hon 2 19 rfl).trans (congrArg some (hS 2 (by kernel_rfl)))
   have hw := HX.out wi (hb.trans (hB.mono hb.size))
   have r0 := hw.at hxi 0 _ rfl
   have r1 := hw.at hxi 1 _ rfl
   have r2 := hw.at hxi 2 _ rfl
   have r3 := hw.at hxi 3 _ rfl
   have r4 := hw.at hxi 4 _ rfl
   have r5 := hw.at hxi 5 _ rfl
   have r6 := hw.at hxi 6 _ rfl
   simp only [Nat.add_zero] at r0
   clear hoff hon hS
   refine wpOp_of rfl rfl ?_
   go_simp
   exact hK.out _ _ rfl (Below.refl _ _)
  ·
   intro hS hK
   have g1 : t[(1 : Nat)]? = some (.slice (some ⟨G2, off2, none⟩) n d) := hoff 1 _ rfl rfl
   clear hoff hon hS
   refine wpOp_of rfl rfl ?_
   go_simp
   exact hK.out _ _ rfl (Below.refl _ _)
  ·
   intro hS hK
   have g5 : t[(5 : Nat)]? = some (.int .i64 (k : Nat)) := hoff 5 _ rfl rfl
   clear hoff hon hS
   refine wpOp_of rfl rfl ?_
   go_simp
   exact hK.out _ _ rfl (Below.refl _ _)
  ·
   intro hS hK
   have g21 : t[(21 : Nat)]? = some (.slice (some ⟨G2, off2, none⟩) n d) := (hon 4 21 rfl).trans (congrArg some (hS 4 (by kernel_rfl)))
   have g22 : t[(22 : Nat)]? = some (.int .i64 (k : Nat)) := (hon 5 22 rfl).trans (congrArg some (hS 5 (by kernel_rfl)))
   clear hoff hon hS
   refine wpOp_of rfl rfl ?_
   go_simp
   exact hK.out _ _ rfl (Below.refl _ _)
  ·
   intro hS hK
   have g23 : t[(23 : Nat)]? = some (.pointer (some ⟨G2, off2 + k * 7, none⟩)) := (hon 6 23 rfl).trans (congrArg some (hS 6 (by kernel_rfl)))
   have hw := HY.out wi (hb.trans (hB.mono hb.size))
   have r0 := hw.at hyi 0 _ rfl
   have r1 := hw.at hyi 1 _ rfl
   have r2 := hw.at hyi 2 _ rfl
   have r3 := hw.at hyi 3 _ rfl
   have r4 := hw.at hyi 4 _ rfl
   have r5 := hw.at hyi 5 _ rfl
   have r6 := hw.at hyi 6 _ rfl
   simp only [Nat.add_zero] at r0
   clear hoff hon hS
   refine wpOp_of rfl rfl ?_
   go_simp
   exact hK.out _ _ rfl (Below.refl _ _)
  ·
   intro hS hK
   have g20 : t[(20 : Nat)]? = some (.agg #[.int .i64 rr.x0, .int .i64 rr.z0, .int .i64 rr.x1, .int .i64 rr.z1, .int .i64 rr.area, .slice hx_.ya rr.ys.length hx_.yc, .slice hx_.ta rr.ts.length hx_.tc]) := (hon 3 20 rfl).trans (congrArg some (hS 3 (by kernel_rfl)))
   have g24 : t[(24 : Nat)]? = some (.agg #[.int .i64 rr.x0, .int .i64 rr.z0, .int .i64 rr.x1, .int .i64 rr.z1, .int .i64 rr.area, .slice hy_.ya rr.ys.length hy_.yc, .slice hy_.ta rr.ts.length hy_.tc]) := (hon 7 24 rfl).trans (congrArg some (hS 7 (by kernel_rfl)))
   clear hoff hon hS
   refine wpOp_of rfl rfl ?_
   go_simp
   go_at_call 62
   refine (sameone17_same hx_ hy_ rr wi ((HX.out wi (hb.trans (hB.mono hb.size))).one hxi) ((HY.out wi (hb.trans (hB.mono hb.size))).one hyi)).mono ?_
   rintro e wz ⟨rfl, hbz⟩
   (try go_simp)
   exact hK.out _ _ rfl hbz
  ·
   intro hS hK
   have g25 : t[(25 : Nat)]? = some (.bool true) := (hon 8 25 rfl).trans (congrArg some (hS 8 (by kernel_rfl)))
   clear hoff hon hS
   refine wpOp_of rfl rfl ?_
   go_simp
   exact hK.out _ _ rfl (Below.refl _ _)
 ·
  intro vals wi hB hS
  have e0 : vals 0 = .slice (some ⟨G, off, none⟩) n c := hS 0 (by decide)
  have e1 : vals 1 = .int .i64 (k : Nat) := hS 1 (by decide)
  have e2 : vals 2 = .pointer (some ⟨G, off + k * 7, none⟩) := hS 2 (by decide)
  have e3 : vals 3 = .agg #[.int .i64 rr.x0, .int .i64 rr.z0, .int .i64 rr.x1, .int .i64 rr.z1, .int .i64 rr.area, .slice hx_.ya rr.ys.length hx_.yc, .slice hx_.ta rr.ts.length hx_.tc] := hS 3 (by decide)
  have e4 : vals 4 = .slice (some ⟨G2, off2, none⟩) n d := hS 4 (by decide)
  have e5 : vals 5 = .int .i64 (k : Nat) := hS 5 (by decide)
  have e6 : vals 6 = .pointer (some ⟨G2, off2 + k * 7, none⟩) := hS 6 (by decide)
  have e7 : vals 7 = .agg #[.int .i64 rr.x0, .int .i64 rr.z0, .int .i64 rr.x1, .int .i64 rr.z1, .int .i64 rr.area, .slice hy_.ya rr.ys.length hy_.yc, .slice hy_.ta rr.ts.length hy_.tc] := hS 7 (by decide)
  have e8 : vals 8 = .bool true := hS 8 (by decide)
  have e9 : vals 9 = .bool false := hS 9 (by decide)
  clear hS
  dsimp only [over]
  have hb2 := hb.trans (hB.mono hb.size)
  rw [e9]
  clear e0 e1 e2 e3 e4 e5 e6 e7 e8 e9
  go_wp2
  go_roundw
  case rel => exact ⟨k + 1, by go_num, by omega, hb2⟩
  case measure => simp [intOf]; omega
set_option maxRecDepth 100000 in
set_option maxHeartbeats 8000000 in
theorem same19_same (tx tz : Int) (a b : Option Addr) (n c d : Nat) (xs ys : List (RHd × Rc)) (p q : Option Addr) (m e f : Nat) (ds : List Dr) (w : World) (hx : SlRc w a n c xs) (hy : SlRc w b n d ys) (he : xs.map Prod.snd = ys.map Prod.snd) (hp : SlR drC 6 w p m e ds) (hq : SlR drC 6 w q m f ds) :
  Calls Tryz.prog 13 #[.agg #[.int .i64 tx, .int .i64 tz, .slice a n c, .slice p m e], .agg #[.int .i64 tx, .int .i64 tz, .slice b n d, .slice q m f]] w fun e w' => e = .returned (.bool true) ∧ Below w.heap.size w w' := by
 have S1 := Lib.hid (fun W (hb : Below w.heap.size w W) => same17_same a b n c d xs ys W (hx.below hb (Nat.le_refl _)) (hy.below hb (Nat.le_refl _)) he)
 have S2 := Lib.hid (fun W (hb : Below w.heap.size w W) => samedoors19_any p q m e m f ds ds W (hp.below hb (Nat.le_refl _)) (hq.below hb (Nat.le_refl _)))
 clear hx hy he hp hq
 have hB : Below w.heap.size w ((w.alloc (.cells #[.int .i64 tx, .int .i64 tz, .slice a n c, .slice p m e] 32 (0, 0))).alloc (.cells #[.int .i64 tx, .int .i64 tz, .slice b n d, .slice q m f] 32 (0, 0))) := ((Below.refl _ _).alloc (Nat.le_refl _) _).alloc (by simp) _
 have h1 := halloc (World.alloc_heap_new w (.cells #[.int .i64 tx, .int .i64 tz, .slice a n c, .slice p m e] 32 (0, 0))) (.cells #[.int .i64 tx, .int .i64 tz, .slice b n d, .slice q m f] 32 (0, 0))
 have h2 := World.alloc_heap_new (w.alloc (.cells #[.int .i64 tx, .int .i64 tz, .slice a n c, .slice p m e] 32 (0, 0))) (.cells #[.int .i64 tx, .int .i64 tz, .slice b n d, .slice q m f] 32 (0, 0))
 rw [World.size_alloc] at h2
 obtain ⟨A, hA⟩ : ∃ A, A = w.heap.size := ⟨_, rfl⟩
 obtain ⟨A2, hA2⟩ : ∃ B, B = A + 1 := ⟨_, rfl⟩
 obtain ⟨W1, hW1⟩ : ∃ W, W = (w.alloc (.cells #[.int .i64 tx, .int .i64 tz, .slice a n c, .slice p m e] 32 (0, 0))).alloc (.cells #[.int .i64 tx, .int .i64 tz, .slice b n d, .slice q m f] 32 (0, 0)) := ⟨_, rfl⟩
 rw [← hW1] at hB h1 h2
 rw [← hA] at h1
 rw [← hA, ← hA2] at h2
 go_enter Tryz.func13, Tryz.ntmps13
 go_upto_region 1 with fail
 rw [← hW1, ← hA, ← hA2]
 clear hW1 hA hA2
 have p0 := hcell (k := 0) (v := .int .i64 tx) h1 rfl
 have p1 := hcell (k := 1) (v := .int .i64 tz) h1 rfl
 have p2 := hcell (k := 2) (v := .slice a n c) h1 rfl
 have p3 := hcell (k := 3) (v := .slice p m e) h1 rfl
 have q0 := hcell (k := 0) (v := .int .i64 tx) h2 rfl
 have q1 := hcell (k := 1) (v := .int .i64 tz) h2 rfl
 have q2 := hcell (k := 2) (v := .slice b n d) h2 rfl
 have q3 := hcell (k := 3) (v := .slice q m f) h2 rfl
 go_wp2_with fail
 refine (S1.out _ hB).mono ?_
 rintro e w2 ⟨rfl, hb2⟩
 have hB2 := hB.trans (hb2.mono hB.size)
 have h1 := hkeep hb2 h1
 have h2 := hkeep hb2 h2
 clear p0 p1 p2 p3 q0 q1 q2 q3
 have p0 := hcell (k := 0) (v := .int .i64 tx) h1 rfl
 have p1 := hcell (k := 1) (v := .int .i64 tz) h1 rfl
 have p2 := hcell (k := 2) (v := .slice a n c) h1 rfl
 have p3 := hcell (k := 3) (v := .slice p m e) h1 rfl
 have q0 := hcell (k := 0) (v := .int .i64 tx) h2 rfl
 have q1 := hcell (k := 1) (v := .int .i64 tz) h2 rfl
 have q2 := hcell (k := 2) (v := .slice b n d) h2 rfl
 have q3 := hcell (k := 3) (v := .slice q m f) h2 rfl
 go_wp2_with fail
 refine (S2.out _ hB2).mono ?_
 rintro e w3 ⟨rfl, hb3⟩
 have hB3 := hB2.trans (hb3.mono hB2.size)
 clear p0 p1 p2 p3 q0 q1 q2 q3
 simp only [decide_true]
 go_wp2
 go_ret
 exact ⟨rfl, hB3⟩
end Go.Proofs.YtgfmdgiepomkiaaGreat
