/- Walk: the law CodeBack. -/
import Derived.Test.YtgfmdgiepomkiaaGreatLf
import Derived.Test.YtgfmdgiepomkiaaGreatKm
import Derived.Test.YtgfmdgiepomkiaaGreatGrT
import Derived.Test.YtgfmdgiepomkiaaGreatLi
import Derived.Test.YtgfmdgiepomkiaaGreatSoW
import Derived.Test.YtgfmdgiepomkiaaGreatSaT
import Derived.Test.YtgfmdgiepomkiaaGreatTlE
import Derived.Test.YtgfmdgiepomkiaaGreatSoE
import Derived.Test.YtgfmdgiepomkiaaGreatLh
namespace Go.Proofs.YtgfmdgiepomkiaaGreat
open Go.RowKit Go.Sort
attribute [local go_sem] Instr.index

theorem cas13 {P : (i : Nat) → i < 13 → Prop} (h0 : P 0 (by decide)) (h1 : P 1 (by decide)) (h2 : P 2 (by decide)) (h3 : P 3 (by decide)) (h4 : P 4 (by decide)) (h5 : P 5 (by decide)) (h6 : P 6 (by decide)) (h7 : P 7 (by decide)) (h8 : P 8 (by decide)) (h9 : P 9 (by decide)) (h10 : P 10 (by decide)) (h11 : P 11 (by decide)) (h12 : P 12 (by decide)) (i : Nat) (h : i < 13) : P i h := by
 by_cases e : i < 6
 ·
  rcases (by omega : i = 0 ∨ i = 1 ∨ i = 2 ∨ i = 3 ∨ i = 4 ∨ i = 5) with rfl | rfl | rfl | rfl | rfl | rfl <;> assumption
 ·
  rcases (by omega : i = 6 ∨ i = 7 ∨ i = 8 ∨ i = 9 ∨ i = 10 ∨ i = 11 ∨ i = 12) with rfl | rfl | rfl | rfl | rfl | rfl | rfl <;> assumption
theorem encs_bytes (l : List Int) : ∀ x ∈ encs l, 0 ≤ x ∧ x ≤ 255 := by
 intro x hx
 obtain ⟨y, _, hy⟩ := List.mem_flatMap.1 hx
 exact enc_byte _ x hy
theorem app_bytes {l ms : List Int} (hm : ∀ x ∈ ms, 0 ≤ x ∧ x ≤ 255) : ∀ x ∈ encs l ++ ms, 0 ≤ x ∧ x ≤ 255 := by
 intro x hx
 rcases List.mem_append.1 hx with hx | hx
 ·
  exact encs_bytes l x hx
 ·
  exact hm x hx
theorem own_far {k : IntKind} {e : TypeId} {B : Nat} {w : World} {a : Option Addr} {n c : Nat} {xs : List Int} (h : OwnI k e B w (.slice a n c) n xs) : n = 0 ∨ ∀ ad, a = some ad → ad.block < w.heap.size := .inr fun ad had => by subst had; exact (h.lt ad.block rfl).2
theorem far_mono {n : Nat} {a : Option Addr} {w w' : World} (h : n = 0 ∨ ∀ ad, a = some ad → ad.block < w.heap.size) (hs : w.heap.size ≤ w'.heap.size) : n = 0 ∨ ∀ ad, a = some ad → ad.block < w'.heap.size := h.imp id fun q ad ha => Nat.lt_of_lt_of_le (q ad ha) hs
/-- The block that a pointer names, where it is there. -/
def oP (b : Bool) (v : Value) : Option Nat := match b, v with
 | true, .pointer (some p) => some p.block
 | _, _ => none
theorem gb_tn {w w1 w2 : World} {r : Option Nat} (h : w.grownBy w1 r) (g : w1.grownBy w2 none) : w.grownBy w2 r :=
 ⟨g.os.trans h.os, g.tape.trans h.tape, g.output.trans h.output, Nat.le_trans h.size g.size, fun i hi hne => (g.block i (Nat.lt_of_lt_of_le hi h.size) (by simp)).trans (h.block i hi hne)⟩
theorem gb_ns {w w1 : World} (h : w.grownBy w1 none) (r : Option Nat) : w.grownBy w1 r := ⟨h.os, h.tape, h.output, h.size, fun i hi _ => h.block i hi (by simp)⟩
theorem gb_any (w : World) (r : Option Nat) : w.grownBy w r := ⟨rfl, rfl, rfl, Nat.le_refl _, fun _ _ _ => rfl⟩
theorem oP_lt {b : Bool} {v : Value} {S : Nat} {W : World} {C : Nat → Prop} (h : b = true → ∃ P, v = .pointer (some ⟨P, 0, none⟩) ∧ S ≤ P ∧ P < W.heap.size ∧ C P) {P : Nat} (hP : oP b v = some P) : P < W.heap.size := by
 cases b with
 | false => cases hP
 | true =>
  obtain ⟨Q, rfl, _, h3, _⟩ := h rfl
  cases hP
  exact h3
theorem below_set {w w1 w2 : World} {P : Nat} (h : Below w.heap.size w w1) (hP : w.heap.size ≤ P) (g : w1.grownBy w2 (some P)) : Below w.heap.size w w2 :=
 ⟨g.os.trans h.os, g.tape.trans h.tape, g.output.trans h.output, Nat.le_trans h.size g.size, fun i hi => (g.block i (Nat.lt_of_lt_of_le hi h.size) (fun e => by cases e; omega)).trans (h.block i hi)⟩
theorem tile_rows {B P k c : Nat} {a : Option Addr} {ps : List (RHd × Rc)} {w W : World} (f1 : RsFar B a k c ps w) (f4 : w.grownBy W (some P)) (f5 : ∀ Q, some P = some Q → Q < B ∨ w.heap.size ≤ Q) : SlRc W a k c ps := by
 rcases f5 P rfl with h | h
 ·
  exact (f1.kept f4 (fun j hj => by cases hj; exact h)).rc
 ·
  exact (f1.kept (row := none) ⟨f4.os, f4.tape, f4.output, f4.size, fun i hi _ => f4.block i hi (fun e => by cases e; omega)⟩ (fun j hj => by cases hj)).rc
theorem encs_pos (x : Int) (l : List Int) : 0 < (encs (x :: l)).length := by
 rw [encs_cons, List.length_append]
 have := enc_pos x.toNat
 omega
theorem soup_pos (c : Cfg) (s : Sou) : 0 < (encs (soupN c s)).length := by
 rw [soup_encs, List.length_append]
 have := encs_pos c.clear [c.climb, c.height, c.rise, c.run, c.w, c.d]
 unfold cfgN
 omega
set_option maxRecDepth 100000 in
set_option maxHeartbeats 16000000 in
theorem codeback_any (cf : Cfg) (p q r : SHead) (s : Sou) (tx tz : Int) (a : Option Addr) (n c : Nat) (xs : List (RHd × Rc)) (b : Option Addr) (m d : Nat) (ds : List Dr) (ma : Option Addr) (mn mc : Nat) (ms : List Int) (za : Option Addr) (zn zc : Nat) (zs : List Int) (w : World)
  (hs : SoupAt w p q r s) (hx : SlRc w a n c xs) (hd : SlR drC 6 w b m d ds) (hm : SlI .u8 w ma mn mc ms) (hmb : ∀ x ∈ ms, 0 ≤ x ∧ x ≤ 255) (hmf : mn = 0 ∨ ∀ ad, ma = some ad → ad.block < w.heap.size) (hz : SlI .u8 w za zn zc zs) (hzb : ∀ x ∈ zs, 0 ≤ x ∧ x ≤ 255) (hzf : zn = 0 ∨ ∀ ad, za = some ad → ad.block < w.heap.size) :
  Calls Tryz.prog 3 #[cfgV cf, soupV p q r, .agg #[.int .i64 tx, .int .i64 tz, .slice a n c, .slice b m d], .slice ma mn mc, .slice za zn zc] w fun e w' => e = .returned (.bool true) ∧ Below w.heap.size w w' := by
 have GS := Lib.hid (fun W (hb : Below w.heap.size w W) => greatsoup_any p q r s W (hs.below hb))
 have GT := Lib.hid (fun W (hb : Below w.heap.size w W) => great18_any a n c xs 100 W (hx.below hb (Nat.le_refl _)))
 have CS := Lib.hid (fun W (hb : Below w.heap.size w W) => codesoup_any cf p q r s W (hs.below hb))
 have CT := Lib.hid (fun W (hb : Below w.heap.size w W) => codetile_any cf tx tz a n c xs b m d ds W (hx.below hb (Nat.le_refl _)) (hd.below hb (Nat.le_refl _)))
 have HSO := Lib.hid (fun W (hb : Below w.heap.size w W) => hs.below hb)
 have HXR := Lib.hid (fun W (hb : Below w.heap.size w W) => hx.below hb (Nat.le_refl _))
 have HDR := Lib.hid (fun W (hb : Below w.heap.size w W) => hd.below hb (Nat.le_refl _))
 have HM := Lib.hid (fun W (hb : Below w.heap.size w W) => And.intro (hm.below hb (Nat.le_refl _)) (far_mono hmf hb.size))
 have HZ := Lib.hid (fun W (hb : Below w.heap.size w W) => And.intro (hz.below hb (Nat.le_refl _)) (far_mono hzf hb.size))
 have HML := Lib.hid hm.len
 have HZL := Lib.hid hz.len
 have HXL := Lib.hid hx.sl.len
 have HDL := Lib.hid hd.len
 have HMB := Lib.hid hmb
 have HZB := Lib.hid hzb
 clear hs hx hd hm hmf hz hzf
 obtain ⟨pa, pn, pc⟩ := p
 obtain ⟨qa, qn, qc⟩ := q
 obtain ⟨ra, rn, rc⟩ := r
 unfold NumPost at CS
 unfold TilePost at CT
 unfold GreatPost at GT
 obtain ⟨E1, hE1⟩ : ∃ E, E = soupE cf s := ⟨_, rfl⟩
 obtain ⟨L1, hL1⟩ : ∃ L, L = soupB cf s := ⟨_, rfl⟩
 obtain ⟨k1, hk1⟩ : ∃ k, k = L1.length := ⟨_, rfl⟩
 rw [← hE1, ← hL1, ← hk1] at CS
 obtain ⟨E2, hE2⟩ : ∃ E, E = tlE cf tx tz (xs.map Prod.snd) ds := ⟨_, rfl⟩
 obtain ⟨L2, hL2⟩ : ∃ L, L = tileB cf tx tz (xs.map Prod.snd) ds := ⟨_, rfl⟩
 rw [← hE2, ← hL2] at CT
 have HE1 := Lib.hid hE1
 have HL1 := Lib.hid hL1
 have HK1 := Lib.hid hk1
 have HE2 := Lib.hid hE2
 have HL2 := Lib.hid hL2
 clear hE1 hL1 hk1 hE2 hL2
 have RZ := Lib.hid (fun W (hb : Below w.heap.size w W) => readsoup_any W za zn zc zs (HZ.out W hb).1 hzb (HZ.out W hb).2)
 have TZ := Lib.hid (fun W (hb : Below w.heap.size w W) => readtile_any W cf za zn zc zs (HZ.out W hb).1 hzb (HZ.out W hb).2)
 obtain ⟨⟨cfz, sz, uz, ez⟩, hvz⟩ : ∃ V, V = rdSoup zs := ⟨_, rfl⟩
 obtain ⟨⟨⟨xz, yz, rz, dz⟩, tuz, tez⟩, htz⟩ : ∃ V, V = rdTile cf zs := ⟨_, rfl⟩
 rw [← hvz] at RZ
 rw [← htz] at TZ
 unfold rdPost at RZ
 unfold RtPost at TZ
 have HVZ := Lib.hid hvz
 have HTZ := Lib.hid htz
 clear hvz htz
 dsimp only [soupV, SHead.v, cfgV] at GS CS CT ⊢
 have hB : Below w.heap.size w (((w.alloc (.cells #[.int .i64 cf.clear, .int .i64 cf.climb, .int .i64 cf.height, .int .i64 cf.rise, .int .i64 cf.run, .int .i64 cf.w, .int .i64 cf.d] 23 (0, 0))).alloc (.cells #[.slice pa pn pc, .slice qa qn qc, .slice ra rn rc] 28 (0, 0))).alloc (.cells #[.int .i64 tx, .int .i64 tz, .slice a n c, .slice b m d] 32 (0, 0))) := (((Below.refl _ _).alloc (Nat.le_refl _) _).alloc (by simp) _).alloc (by simp; omega) _
 have hC := halloc (halloc (World.alloc_heap_new w (.cells #[.int .i64 cf.clear, .int .i64 cf.climb, .int .i64 cf.height, .int .i64 cf.rise, .int .i64 cf.run, .int .i64 cf.w, .int .i64 cf.d] 23 (0, 0))) (.cells #[.slice pa pn pc, .slice qa qn qc, .slice ra rn rc] 28 (0, 0))) (.cells #[.int .i64 tx, .int .i64 tz, .slice a n c, .slice b m d] 32 (0, 0))
 have hS := halloc (World.alloc_heap_new (w.alloc (.cells #[.int .i64 cf.clear, .int .i64 cf.climb, .int .i64 cf.height, .int .i64 cf.rise, .int .i64 cf.run, .int .i64 cf.w, .int .i64 cf.d] 23 (0, 0))) (.cells #[.slice pa pn pc, .slice qa qn qc, .slice ra rn rc] 28 (0, 0))) (.cells #[.int .i64 tx, .int .i64 tz, .slice a n c, .slice b m d] 32 (0, 0))
 have hT := World.alloc_heap_new ((w.alloc (.cells #[.int .i64 cf.clear, .int .i64 cf.climb, .int .i64 cf.height, .int .i64 cf.rise, .int .i64 cf.run, .int .i64 cf.w, .int .i64 cf.d] 23 (0, 0))).alloc (.cells #[.slice pa pn pc, .slice qa qn qc, .slice ra rn rc] 28 (0, 0))) (.cells #[.int .i64 tx, .int .i64 tz, .slice a n c, .slice b m d] 32 (0, 0))
 simp only [World.size_alloc] at hS hT
 obtain ⟨W1, hW1⟩ : ∃ W, W = ((w.alloc (.cells #[.int .i64 cf.clear, .int .i64 cf.climb, .int .i64 cf.height, .int .i64 cf.rise, .int .i64 cf.run, .int .i64 cf.w, .int .i64 cf.d] 23 (0, 0))).alloc (.cells #[.slice pa pn pc, .slice qa qn qc, .slice ra rn rc] 28 (0, 0))).alloc (.cells #[.int .i64 tx, .int .i64 tz, .slice a n c, .slice b m d] 32 (0, 0)) := ⟨_, rfl⟩
 obtain ⟨S0, hS0⟩ : ∃ S, S = w.heap.size := ⟨_, rfl⟩
 rw [← hW1] at hB hC hS hT
 rw [← hS0] at hC hS hT
 obtain ⟨S1, hS1⟩ : ∃ S, S = S0 + 1 := ⟨_, rfl⟩
 rw [← hS1] at hS hT
 obtain ⟨S2, hS2⟩ : ∃ S, S = S1 + 1 := ⟨_, rfl⟩
 rw [← hS2] at hT
 clear hmb hzb
 have HB1 := Lib.hid hB
 have HC := Lib.hid hC
 have HS := Lib.hid hS
 have HT := Lib.hid hT
 clear hC hS hT
 go_enter Tryz.func3, Tryz.ntmps3
 go_upto_region 1 with fail
 rw [← hW1, ← hS0, ← hS1, ← hS2]
 clear hW1 hS0 hS1 hS2
 have hR := Below.refl W1.heap.size W1
 have hS := hkeep hR HS.out
 have s0 := hcell (k := 0) (v := .slice pa pn pc) hS rfl
 have s1 := hcell (k := 1) (v := .slice qa qn qc) hS rfl
 have s2 := hcell (k := 2) (v := .slice ra rn rc) hS rfl
 have hT := hkeep hR HT.out
 have t0 := hcell (k := 0) (v := .int .i64 tx) hT rfl
 have t1 := hcell (k := 1) (v := .int .i64 tz) hT rfl
 have t2 := hcell (k := 2) (v := .slice a n c) hT rfl
 have t3 := hcell (k := 3) (v := .slice b m d) hT rfl
 clear hS hT
 go_wp2_with fail
 refine (GS.out _ hB).mono ?_
 rintro e w2 ⟨rfl, hb2⟩
 have hB2 := hB.trans (hb2.mono hB.size)
 have hR2 := hb2
 clear s0 s1 s2 t0 t1 t2 t3
 clear hb2 GS hR
 generalize greatS s = gs
 cases gs with
 | true =>
  go_wp2_with fail
  refine (wakes20_any _).mono ?_
  rintro e wz ⟨rfl, hbz⟩
  have hBZ := hB2.trans (hbz.mono hB2.size)
  go_wp2
  go_ret
  exact ⟨rfl, hBZ⟩
 | false =>
 by_cases h1 : (1000 : Int) < (mn : Int)
 case pos =>
  go_wp2_with fail
  refine (wakes20_any _).mono ?_
  rintro e wz ⟨rfl, hbz⟩
  have hBZ := hB2.trans (hbz.mono hB2.size)
  go_wp2
  go_ret
  exact ⟨rfl, hBZ⟩
 by_cases h2 : (5000 : Int) < (zn : Int)
 case pos =>
  go_wp2_with fail
  refine (wakes20_any _).mono ?_
  rintro e wz ⟨rfl, hbz⟩
  have hBZ := hB2.trans (hbz.mono hB2.size)
  go_wp2
  go_ret
  exact ⟨rfl, hBZ⟩
 have hT := hkeep hR2 HT.out
 have t0 := hcell (k := 0) (v := .int .i64 tx) hT rfl
 have t1 := hcell (k := 1) (v := .int .i64 tz) hT rfl
 have t2 := hcell (k := 2) (v := .slice a n c) hT rfl
 have t3 := hcell (k := 3) (v := .slice b m d) hT rfl
 clear hT
 go_wp2_with fail
 refine (GT.out _ hB2).mono ?_
 rintro e w3 ⟨g, rfl, hb3⟩
 have hB3 := hB2.trans (hb3.mono hB2.size)
 have hR3 := hR2.trans (hb3.mono hR2.size)
 clear t0 t1 t2 t3
 clear hb3 GT hB2 hR2
 cases g with
 | true =>
  go_wp2_with fail
  refine (wakes20_any _).mono ?_
  rintro e wz ⟨rfl, hbz⟩
  have hBZ := hB3.trans (hbz.mono hB3.size)
  go_wp2
  go_ret
  exact ⟨rfl, hBZ⟩
 | false =>
 have hT := hkeep hR3 HT.out
 have t0 := hcell (k := 0) (v := .int .i64 tx) hT rfl
 have t1 := hcell (k := 1) (v := .int .i64 tz) hT rfl
 have t2 := hcell (k := 2) (v := .slice a n c) hT rfl
 have t3 := hcell (k := 3) (v := .slice b m d) hT rfl
 clear hT
 by_cases h5 : (500 : Int) < (m : Int)
 case pos =>
  go_wp2_with fail
  refine (wakes20_any _).mono ?_
  rintro e wz ⟨rfl, hbz⟩
  have hBZ := hB3.trans (hbz.mono hB3.size)
  go_wp2
  go_ret
  exact ⟨rfl, hBZ⟩
 clear t0 t1 t2 t3
 have hmn : mn ≤ 1000 := by omega
 have hzn : zn ≤ 5000 := by omega
 have hC := hkeep hR3 HC.out
 have c0 := hcell (k := 0) (v := .int .i64 cf.clear) hC rfl
 have c1 := hcell (k := 1) (v := .int .i64 cf.climb) hC rfl
 have c2 := hcell (k := 2) (v := .int .i64 cf.height) hC rfl
 have c3 := hcell (k := 3) (v := .int .i64 cf.rise) hC rfl
 have c4 := hcell (k := 4) (v := .int .i64 cf.run) hC rfl
 have c5 := hcell (k := 5) (v := .int .i64 cf.w) hC rfl
 have c6 := hcell (k := 6) (v := .int .i64 cf.d) hC rfl
 have hS := hkeep hR3 HS.out
 have s0 := hcell (k := 0) (v := .slice pa pn pc) hS rfl
 have s1 := hcell (k := 1) (v := .slice qa qn qc) hS rfl
 have s2 := hcell (k := 2) (v := .slice ra rn rc) hS rfl
 have hT := hkeep hR3 HT.out
 have t0 := hcell (k := 0) (v := .int .i64 tx) hT rfl
 have t1 := hcell (k := 1) (v := .int .i64 tz) hT rfl
 have t2 := hcell (k := 2) (v := .slice a n c) hT rfl
 have t3 := hcell (k := 3) (v := .slice b m d) hT rfl
 clear hC hS hT
 go_wp2_with fail
 refine (CS.out _ hB3).mono ?_
 rintro e w4 ⟨v4, rfl, hv4, hb4⟩
 have hB4 := hB3.trans (hb4.mono hB3.size)
 have hR4 := hR3.trans (hb4.mono hR3.size)
 clear c0 c1 c2 c3 c4 c5 c6 s0 s1 s2 t0 t1 t2 t3
 clear hb4 hB3 hR3 CS
 obtain ⟨ga, gc, rfl, hvs⟩ := hv4.reads
 have hvf := own_far hv4
 clear hv4
 go_upto_if 62 with fail
 go_cut [13, 14, 15, 16] from 62 to 90 (fun s13 s14 s15 s16 wx => Below W1.heap.size W1 wx)
 case first =>
  by_cases h0 : E1 = 0
  case neg =>
   go_wp2
   go_meet
   exact hR4
  case pos =>
   subst h0
   have hF : SoupF cf s := soupE_F HE1.out.symm
   have hLL : L1 = encs (soupN cf s) := by rw [HL1.out]; unfold soupB; rw [if_pos HE1.out.symm]
   have hkl : k1 ≤ 30000 := by rw [HK1.out, hLL]; exact soup_small hF
   have hrd : rdSoup (L1 ++ ms) = (cf, s, (k1 : Int), 0) := by rw [hLL, soup_fw HE1.out.symm hF ms (by rw [HML.out]; exact hmn), ← hLL, ← HK1.out]
   have RS := Lib.hid (fun W ba bc (h1 : SlI .u8 W ba (k1 + mn) bc (L1 ++ ms)) (h2 : k1 + mn = 0 ∨ ∀ ad, ba = some ad → ad.block < W.heap.size) => readsoup_any W ba _ bc (L1 ++ ms) h1 (by rw [hLL]; exact app_bytes HMB.out) h2)
   rw [hrd] at RS
   unfold rdPost at RS
   dsimp only [cfgV, soupV, SHead.v] at RS
   have h2l : k1 ≤ 200000 := by omega
   have h3l : mn ≤ 200000 := by omega
   clear hF hLL hrd hkl
   have hZ4 := Lib.hid (HM.out _ hB4)
   have HV := Lib.hid hvs
   clear hvs
   go_wp2_with fail
   refine (behind_any _ _ _ _ _ _ _ _ _ HV.out hvf hZ4.out.1 hZ4.out.2 h2l h3l).mono ?_
   rintro e w5 ⟨v5, rfl, hv5, hb5⟩
   have hR5 := hR4.trans (hb5.mono hR4.size)
   obtain ⟨ba, bc, rfl, hbs⟩ := hv5.reads
   have hbf := own_far hv5
   have hbs := Lib.hid hbs
   clear hR4 hB4 hb5 hv5 HV hvf hZ4 h2l h3l
   go_wp2_with fail
   refine (RS.out _ ba bc hbs.out hbf).mono ?_
   rintro e w6 ⟨⟨ua, un, uc⟩, ⟨va, vn, vc⟩, ⟨ya, yn, yc⟩, rfl, hs6, hb6⟩
   have hR6 := hR5.trans (hb6.mono hR5.size)
   clear hR5 hb6 RS hbs hbf
   obtain ⟨W7, hW7⟩ : ∃ W, W = (w6.alloc (.cells #[.int .i64 cf.clear, .int .i64 cf.climb, .int .i64 cf.height, .int .i64 cf.rise, .int .i64 cf.run, .int .i64 cf.w, .int .i64 cf.d] 23 (0, 0))).alloc (.cells #[.slice ua un uc, .slice va vn vc, .slice ya yn yc] 28 (0, 0)) := ⟨_, rfl⟩
   have hb7 : Below w6.heap.size w6 ((w6.alloc (.cells #[.int .i64 cf.clear, .int .i64 cf.climb, .int .i64 cf.height, .int .i64 cf.rise, .int .i64 cf.run, .int .i64 cf.w, .int .i64 cf.d] 23 (0, 0))).alloc (.cells #[.slice ua un uc, .slice va vn vc, .slice ya yn yc] 28 (0, 0))) := ((Below.refl _ _).alloc (Nat.le_refl _) _).alloc (by simp) _
   have hC7 := halloc (World.alloc_heap_new w6 (.cells #[.int .i64 cf.clear, .int .i64 cf.climb, .int .i64 cf.height, .int .i64 cf.rise, .int .i64 cf.run, .int .i64 cf.w, .int .i64 cf.d] 23 (0, 0))) (.cells #[.slice ua un uc, .slice va vn vc, .slice ya yn yc] 28 (0, 0))
   have hS7 := World.alloc_heap_new (w6.alloc (.cells #[.int .i64 cf.clear, .int .i64 cf.climb, .int .i64 cf.height, .int .i64 cf.rise, .int .i64 cf.run, .int .i64 cf.w, .int .i64 cf.d] 23 (0, 0))) (.cells #[.slice ua un uc, .slice va vn vc, .slice ya yn yc] 28 (0, 0))
   simp only [World.size_alloc] at hS7
   rw [← hW7] at hb7 hC7 hS7
   have hR7 := hR6.trans (hb7.mono hR6.size)
   have hB7 := HB1.out.trans (hR7.mono HB1.out.size)
   have SM := Lib.hid (same_same _ _ _ _ _ _ s _ (hs6.below hb7) (HSO.out _ hB7))
   dsimp only [soupV, SHead.v] at SM
   clear hs6 hb7 hB7 hR6
   have hC := hkeep hR7 HC.out
   have c0 := hcell (k := 0) (v := .int .i64 cf.clear) hC rfl
   have c1 := hcell (k := 1) (v := .int .i64 cf.climb) hC rfl
   have c2 := hcell (k := 2) (v := .int .i64 cf.height) hC rfl
   have c3 := hcell (k := 3) (v := .int .i64 cf.rise) hC rfl
   have c4 := hcell (k := 4) (v := .int .i64 cf.run) hC rfl
   have c5 := hcell (k := 5) (v := .int .i64 cf.w) hC rfl
   have c6 := hcell (k := 6) (v := .int .i64 cf.d) hC rfl
   have hS := hkeep hR7 HS.out
   have s0 := hcell (k := 0) (v := .slice pa pn pc) hS rfl
   have s1 := hcell (k := 1) (v := .slice qa qn qc) hS rfl
   have s2 := hcell (k := 2) (v := .slice ra rn rc) hS rfl
   clear hC hS
   have d0 := hcell (k := 0) (v := .int .i64 cf.clear) hC7 rfl
   have d1 := hcell (k := 1) (v := .int .i64 cf.climb) hC7 rfl
   have d2 := hcell (k := 2) (v := .int .i64 cf.height) hC7 rfl
   have d3 := hcell (k := 3) (v := .int .i64 cf.rise) hC7 rfl
   have d4 := hcell (k := 4) (v := .int .i64 cf.run) hC7 rfl
   have d5 := hcell (k := 5) (v := .int .i64 cf.w) hC7 rfl
   have d6 := hcell (k := 6) (v := .int .i64 cf.d) hC7 rfl
   have f0 := hcell (k := 0) (v := .slice ua un uc) hS7 rfl
   have f1 := hcell (k := 1) (v := .slice va vn vc) hS7 rfl
   have f2 := hcell (k := 2) (v := .slice ya yn yc) hS7 rfl
   obtain ⟨Q0, hQ0⟩ : ∃ S, S = w6.heap.size := ⟨_, rfl⟩
   obtain ⟨Q1, hQ1⟩ : ∃ S, S = Q0 + 1 := ⟨_, rfl⟩
   rw [← hQ0] at d0 d1 d2 d3 d4 d5 d6 f0 f1 f2
   rw [← hQ1] at f0 f1 f2
   clear hC7 hS7
   go_upto_region 6 with fail
   rw [← hW7, ← hQ0, ← hQ1]
   clear hW7 hQ0 hQ1
   go_wp2_with fail
   refine SM.out.mono ?_
   rintro e w8 ⟨rfl, hb8⟩
   have hR8 := hR7.trans (hb8.mono hR7.size)
   clear hb8 hR7 SM
   clear c0 c1 c2 c3 c4 c5 c6 s0 s1 s2
   clear d0 d1 d2 d3 d4 d5 d6 f0 f1 f2
   go_wp2
   go_meet
   exact hR8
 case rest =>
 obtain ⟨wR, hwR⟩ : ∃ W : World, W = wc := ⟨_, rfl⟩
 rw [← hwR] at hcut
 rw [← hwR]
 clear hwR
 have hRx := hcut
 have hBx := HB1.out.trans (hRx.mono HB1.out.size)
 have hC := hkeep hRx HC.out
 have c0 := hcell (k := 0) (v := .int .i64 cf.clear) hC rfl
 have c1 := hcell (k := 1) (v := .int .i64 cf.climb) hC rfl
 have c2 := hcell (k := 2) (v := .int .i64 cf.height) hC rfl
 have c3 := hcell (k := 3) (v := .int .i64 cf.rise) hC rfl
 have c4 := hcell (k := 4) (v := .int .i64 cf.run) hC rfl
 have c5 := hcell (k := 5) (v := .int .i64 cf.w) hC rfl
 have c6 := hcell (k := 6) (v := .int .i64 cf.d) hC rfl
 have hT := hkeep hRx HT.out
 have t0 := hcell (k := 0) (v := .int .i64 tx) hT rfl
 have t1 := hcell (k := 1) (v := .int .i64 tz) hT rfl
 have t2 := hcell (k := 2) (v := .slice a n c) hT rfl
 have t3 := hcell (k := 3) (v := .slice b m d) hT rfl
 clear hC hT
 go_wp2_with fail
 refine (CT.out _ hBx).mono ?_
 rintro e w9 ⟨v9, n9, rfl, hv9, hb9⟩
 have hB9 := hBx.trans (hb9.mono hBx.size)
 have hR9 := hRx.trans (hb9.mono hRx.size)
 clear c0 c1 c2 c3 c4 c5 c6 t0 t1 t2 t3
 clear hb9 hBx hRx hcut CT
 obtain ⟨ga, gc, rfl, hvs⟩ := hv9.reads
 have hvf := own_far hv9
 have HK2 := Lib.hid hv9.length
 clear hv9
 go_upto_if 98 with fail
 go_cut [19, 20, 21] from 98 to 121 (fun s19 s20 s21 wx => Below W1.heap.size W1 wx)
 case first =>
  by_cases h0 : E2 = 0
  case neg =>
   go_wp2
   go_meet
   exact hR9
  case pos =>
   subst h0
   have hF := tlE_F2 HE2.out.symm
   have hLL : L2 = encs (tileN tx tz (xs.map Prod.snd)) := by rw [HL2.out]; unfold tileB; rw [if_pos HE2.out.symm]
   have hkl : n9 ≤ 114939 := by rw [← HK2.out, hLL]; exact tile_len HE2.out.symm hF
   have hrd : rdTile cf (L2 ++ ms) = ((tx, tz, xs.map Prod.snd, ds), (n9 : Int), 0) := by rw [hLL, tile_fw HE2.out.symm hF ms (by rw [HML.out]; exact hmn), ← hLL, HK2.out]
   have RT := Lib.hid (fun W ba bc (h1 : SlI .u8 W ba (n9 + mn) bc (L2 ++ ms)) (h2 : n9 + mn = 0 ∨ ∀ ad, ba = some ad → ad.block < W.heap.size) => readtile_any W cf ba _ bc (L2 ++ ms) h1 (by rw [hLL]; exact app_bytes HMB.out) h2)
   rw [hrd] at RT
   unfold RtPost at RT
   dsimp only [cfgV] at RT
   have HN9 : Hid (n9 ≤ 200000 ∧ mn ≤ 200000) := ⟨by omega, by omega⟩
   clear hF hLL hrd hkl
   have HM9 := Lib.hid (fun W (hb : Below w9.heap.size w9 W) => HM.out W (hB9.trans (hb.mono hB9.size)))
   have HG9 := Lib.hid (fun W (hb : Below w9.heap.size w9 W) => And.intro (hvs.below hb (Nat.le_refl _)) (far_mono hvf hb.size))
   have HC9 := Lib.hid (hkeep hR9 HC.out)
   clear hvs hvf
   go_upto_region 10 with fail
   refine wp_region_fun ([none, none, none, none, none, none, none, none, none, none, none, none, none, none, none, none, none, none, none, some 9, some 11, some 12, none, none, none, none, none, none, none, none, none, none, none, none, none, none, none, none, none, none, none, none, none, none, none, none, none, none, none, none, none, none, none, none, none, none, none, none, none, none, none, none, none, none, none, none, none, none, none, none, none, none, none, none, none, none, none, none, none, none, none, none, none, none, none, none, none, none, none, none, none, none, none, none, none, none, none, none, none, some 5, some 0, some 1, some 2, some 3, some 4, some 6, some 7, some 8, none, none, none, none, none, none, none, none, none, none, none, none, none, none, none, none, none, none, none, none, none, none, none, none, none, none, none, none, none, none, none, none, none, none, none, none, none, none, none, none, none, none, none, none, none, none, none, none, none, none, none, none, none, none, none, none, none, none, none, none, none, none, none, none, none, none, none, none, none, none, none, none, none, none, none, none, none, none, none, none, none, none, none, none, none]) (fun (b : Nat → Bool) (vals : Nat → Value) (W : World) => Below w9.heap.size w9 W ∧ (b 0 = true → vals 0 = .agg #[.int .i64 cf.clear, .int .i64 cf.climb, .int .i64 cf.height, .int .i64 cf.rise, .int .i64 cf.run, .int .i64 cf.w, .int .i64 cf.d]) ∧ (b 1 = true → vals 1 = .slice ga n9 gc) ∧ (b 2 = true → vals 2 = .slice ma mn mc) ∧ (b 3 = true → ∃ ba bc, vals 3 = .slice ba (n9 + mn) bc ∧ (b 4 = false → SlI .u8 W ba (n9 + mn) bc (L2 ++ ms) ∧ (n9 + mn = 0 ∨ ∀ ad, ba = some ad → ad.block < W.heap.size))) ∧ (b 10 = true → b 6 = true) ∧ (b 6 = true → b 5 = true) ∧ (b 5 = true → b 4 = true) ∧ (b 10 = true → b 9 = true) ∧ (b 9 = true → ∃ P, vals 9 = .pointer (some ⟨P, 0, none⟩) ∧ w9.heap.size ≤ P ∧ P < W.heap.size ∧ (b 10 = false → W.heap[P]? = some (.cells #[.int .i64 0, .int .i64 0, .slice none 0 0, .slice none 0 0] 32 (0, 0)))) ∧ (b 4 = true → ∃ ua uc va vc ps B Wc, vals 4 = .tuple #[.agg #[.int .i64 tx, .int .i64 tz, .slice ua n uc, .slice va m vc], .int .i64 (n9 : Nat), .int .i64 0] ∧ (b 6 = true → vals 6 = .agg #[.int .i64 tx, .int .i64 tz, .slice ua n uc, .slice va m vc]) ∧ RsFar B ua n uc ps Wc ∧ ps.map Prod.snd = xs.map Prod.snd ∧ SlR drC 6 W va m vc ds ∧ Wc.grownBy W (oP (b 9) (vals 9)) ∧ (∀ P, oP (b 9) (vals 9) = some P → P < B ∨ Wc.heap.size ≤ P) ∧ (b 10 = true → ∃ P, vals 9 = .pointer (some ⟨P, 0, none⟩) ∧ W.heap[P]? = some (.cells #[.int .i64 tx, .int .i64 tz, .slice ua n uc, .slice va m vc] 32 (0, 0)))) ∧ (b 5 = true → vals 5 = vals 4) ∧ (b 7 = true → vals 7 = .int .i64 (n9 : Nat)) ∧ (b 8 = true → vals 8 = .int .i64 0) ∧ (b 11 = true → vals 11 = .int .i64 (n9 : Nat)) ∧ (b 12 = true → vals 12 = .int .i64 0)) (by kernel_rfl) (by kernel_rfl) (by kernel_rfl) (by kernel_rfl) ?_ ?_ ?_
   ·
    intro vals
    exact ⟨(Below.refl _ _).drew, (fun h => by cases (show false = true from h)), (fun h => by cases (show false = true from h)), (fun h => by cases (show false = true from h)), (fun h => by cases (show false = true from h)), (fun h => by cases (show false = true from h)), (fun h => by cases (show false = true from h)), (fun h => by cases (show false = true from h)), (fun h => by cases (show false = true from h)), (fun h => by cases (show false = true from h)), (fun h => by cases (show false = true from h)), (fun h => by cases (show false = true from h)), (fun h => by cases (show false = true from h)), (fun h => by cases (show false = true from h)), (fun h => by cases (show false = true from h)), (fun h => by cases (show false = true from h))⟩
   ·
    intro Q' K t b vals wi hoff hon i hlt hR hb' hd hK
    have hlt : i < 13 := hlt
    obtain ⟨hb, h0, h1, h2, h3, i1, i2, i3, i4, h9, h4, h5, h7, h8, h11, h12⟩ := hR
    revert hb' hd hK
    cases i, hlt using cas13
    ·
     intro hb' hd hK
     have g5 : t[(5 : Nat)]? = some (.pointer (some ⟨S0, 0, none⟩)) := hoff 5 _ rfl rfl
     have hC := hkeep hb HC9.out
     have c0 := hcell (k := 0) (v := .int .i64 cf.clear) hC rfl
     have c1 := hcell (k := 1) (v := .int .i64 cf.climb) hC rfl
     have c2 := hcell (k := 2) (v := .int .i64 cf.height) hC rfl
     have c3 := hcell (k := 3) (v := .int .i64 cf.rise) hC rfl
     have c4 := hcell (k := 4) (v := .int .i64 cf.run) hC rfl
     have c5 := hcell (k := 5) (v := .int .i64 cf.w) hC rfl
     have c6 := hcell (k := 6) (v := .int .i64 cf.d) hC rfl
     clear hC
     clear hoff hon hd
     refine wpOp_of rfl rfl ?_
     go_simp
     exact hK.out _ _ ⟨(hb), (fun _ => rfl), (h1), (h2), (h3), (i1), (i2), (i3), (i4), (h9), (h4), (h5), (h7), (h8), (h11), (h12)⟩
    ·
     intro hb' hd hK
     have g17 : t[(17 : Nat)]? = some (.slice ga n9 gc) := hoff 17 _ rfl rfl
     clear hoff hon hd
     refine wpOp_of rfl rfl ?_
     go_simp
     exact hK.out _ _ ⟨(hb), (h0), (fun _ => rfl), (h2), (h3), (i1), (i2), (i3), (i4), (h9), (h4), (h5), (h7), (h8), (h11), (h12)⟩
    ·
     intro hb' hd hK
     have g3 : t[(3 : Nat)]? = some (.slice ma mn mc) := hoff 3 _ rfl rfl
     clear hoff hon hd
     refine wpOp_of rfl rfl ?_
     go_simp
     exact hK.out _ _ ⟨(hb), (h0), (h1), (fun _ => rfl), (h3), (i1), (i2), (i3), (i4), (h9), (h4), (h5), (h7), (h8), (h11), (h12)⟩
    ·
     intro hb' hd hK
     have d1 := hd 1 (by kernel_rfl)
     have g101 : t[(101 : Nat)]? = some (.slice ga n9 gc) := (hon 1 101 rfl).trans (congrArg some (h1 d1))
     have d2 := hd 2 (by kernel_rfl)
     have g102 : t[(102 : Nat)]? = some (.slice ma mn mc) := (hon 2 102 rfl).trans (congrArg some (h2 d2))
     have hM := HM9.out _ hb
     have hG := HG9.out _ hb
     clear hoff hon hd
     refine wpOp_of rfl rfl ?_
     go_simp
     go_at_call 9
     refine (behind_any _ _ _ _ _ _ _ _ _ hG.1 hG.2 hM.1 hM.2 HN9.out.1 HN9.out.2).mono ?_
     rintro e wz ⟨v5, rfl, hv5, hbz⟩
     obtain ⟨ba, bc, rfl, hbs⟩ := hv5.reads
     (try go_simp)
     exact hK.out _ _ ⟨(hb.trans (hbz.mono hb.size)), (h0), (h1), (h2), (fun _ => ⟨ba, bc, rfl, fun _ => ⟨hbs, own_far hv5⟩⟩), (i1), (i2), (i3), (i4), (fun h => by obtain ⟨P, e, q1, q2, q3⟩ := h9 h; exact ⟨P, e, q1, Nat.lt_of_lt_of_le q2 hbz.size, fun h => hkeep hbz (q3 h)⟩), (fun h => by obtain ⟨ua, uc, va, vc, ps, B, Wc, e4, e6, f1, f2, f3, f4, f5, f6⟩ := h4 h; exact ⟨ua, uc, va, vc, ps, B, Wc, e4, e6, f1, f2, f3.below hbz (Nat.le_refl _), gb_tn f4 (gb_of_below hbz), f5, fun h => by obtain ⟨P, e, q⟩ := f6 h; exact ⟨P, e, hkeep hbz q⟩⟩), (h5), (h7), (h8), (h11), (h12)⟩
    ·
     intro hb' hd hK
     have d0 := hd 0 (by kernel_rfl)
     have g100 : t[(100 : Nat)]? = some (.agg #[.int .i64 cf.clear, .int .i64 cf.climb, .int .i64 cf.height, .int .i64 cf.rise, .int .i64 cf.run, .int .i64 cf.w, .int .i64 cf.d]) := (hon 0 100 rfl).trans (congrArg some (h0 d0))
     have d3 := hd 3 (by kernel_rfl)
     have g103 : t[(103 : Nat)]? = some (vals 3) := hon 3 103 rfl
     obtain ⟨ba, bc, e3, f3⟩ := h3 d3
     obtain ⟨f31, f32⟩ := f3 hb'
     rw [e3] at g103
     have n5 : b 5 = false := by cases h : b 5 with | false => rfl | true => exact absurd (i3 h) (by rw [hb']; decide)
     have n6 : b 6 = false := by cases h : b 6 with | false => rfl | true => exact absurd (i2 h) (by rw [n5]; decide)
     have n10 : b 10 = false := by cases h : b 10 with | false => rfl | true => exact absurd (i1 h) (by rw [n6]; decide)
     clear hoff hon hd
     refine wpOp_of rfl rfl ?_
     go_simp
     go_at_call 12
     refine (RT.out _ ba bc f31 f32).mono ?_
     rintro e wz ⟨ua, un, uc, ps, va, vn, vc, rfl, hp, hps, hq, hbz⟩
     (try go_simp)
     obtain rfl : n = un := by have h1 := congrArg List.length hps; rw [List.length_map, List.length_map, hp.sl.len, HXL.out] at h1; exact h1.symm
     obtain rfl : m = vn := HDL.out.symm.trans hq.len
     exact hK.out _ _ ⟨(hb.trans (hbz.mono hb.size)), (h0), (h1), (h2), (fun h => ⟨ba, bc, e3, fun h => by cases (show true = false from h)⟩), (i1), (i2), (fun _ => rfl), (i4), (fun h => by obtain ⟨P, e, q1, q2, q3⟩ := h9 h; exact ⟨P, e, q1, Nat.lt_of_lt_of_le q2 hbz.size, fun h => hkeep hbz (q3 h)⟩), (fun _ => ⟨ua, uc, va, vc, ps, wi.heap.size, wz, rfl, fun h => absurd h (by rw [show updB b 4 6 = b 6 from rfl, n6]; decide), hp, hps, hq, gb_any _ _, fun P hP => .inl (Nat.lt_of_lt_of_le (oP_lt h9 hP) (Nat.le_refl _)), fun h => absurd h (by rw [show updB b 4 10 = b 10 from rfl, n10]; decide)⟩), (fun h => absurd h (by rw [show updB b 4 5 = b 5 from rfl, n5]; decide)), (h7), (h8), (h11), (h12)⟩
    ·
     intro hb' hd hK
     have d4 := hd 4 (by kernel_rfl)
     have g104 : t[(104 : Nat)]? = some (vals 4) := hon 4 104 rfl
     obtain ⟨ua, uc, va, vc, ps, B, Wc, e4, e6, f1, f2, f3, f4, f5, f6⟩ := h4 d4
     rw [e4] at g104
     clear hoff hon hd
     refine wpOp_of rfl rfl ?_
     go_simp
     exact hK.out _ _ ⟨(hb), (h0), (h1), (h2), (h3), (i1), (fun _ => rfl), (fun _ => d4), (i4), (h9), (h4), (fun _ => e4.symm), (h7), (h8), (h11), (h12)⟩
    ·
     intro hb' hd hK
     have d5 := hd 5 (by kernel_rfl)
     have g99 : t[(99 : Nat)]? = some (vals 5) := hon 5 99 rfl
     have d4 := i3 d5
     obtain ⟨ua, uc, va, vc, ps, B, Wc, e4, e6, f1, f2, f3, f4, f5, f6⟩ := h4 d4
     have e5 := h5 d5
     rw [e5, e4] at g99
     clear hoff hon hd
     refine wpOp_of rfl rfl ?_
     go_simp
     exact hK.out _ _ ⟨(hb), (h0), (h1), (h2), (h3), (fun _ => rfl), (fun _ => d5), (i3), (i4), (h9), (fun _ => ⟨ua, uc, va, vc, ps, B, Wc, e4, fun _ => rfl, f1, f2, f3, f4, f5, f6⟩), (h5), (h7), (h8), (h11), (h12)⟩
    ·
     intro hb' hd hK
     have d5 := hd 5 (by kernel_rfl)
     have g99 : t[(99 : Nat)]? = some (vals 5) := hon 5 99 rfl
     have d4 := i3 d5
     obtain ⟨ua, uc, va, vc, ps, B, Wc, e4, e6, f1, f2, f3, f4, f5, f6⟩ := h4 d4
     have e5 := h5 d5
     rw [e5, e4] at g99
     clear hoff hon hd
     refine wpOp_of rfl rfl ?_
     go_simp
     exact hK.out _ _ ⟨(hb), (h0), (h1), (h2), (h3), (i1), (i2), (i3), (i4), (h9), (h4), (h5), (fun _ => rfl), (h8), (h11), (h12)⟩
    ·
     intro hb' hd hK
     have d5 := hd 5 (by kernel_rfl)
     have g99 : t[(99 : Nat)]? = some (vals 5) := hon 5 99 rfl
     have d4 := i3 d5
     obtain ⟨ua, uc, va, vc, ps, B, Wc, e4, e6, f1, f2, f3, f4, f5, f6⟩ := h4 d4
     have e5 := h5 d5
     rw [e5, e4] at g99
     clear hoff hon hd
     refine wpOp_of rfl rfl ?_
     go_simp
     exact hK.out _ _ ⟨(hb), (h0), (h1), (h2), (h3), (i1), (i2), (i3), (i4), (h9), (h4), (h5), (h7), (fun _ => rfl), (h11), (h12)⟩
    ·
     intro hb' hd hK
     have n10 : b 10 = false := by cases h : b 10 with | false => rfl | true => exact absurd (i4 h) (by rw [hb']; decide)
     clear hoff hon hd
     refine wpOp_of rfl rfl ?_
     go_simp
     have hbz : Below wi.heap.size wi (wi.alloc (.cells #[.int .i64 0, .int .i64 0, .slice none 0 0, .slice none 0 0] 32 (0, 0))) := (Below.refl _ _).alloc (Nat.le_refl _) _
     exact hK.out _ _ ⟨(hb.trans (hbz.mono hb.size)), (h0), (h1), (h2), (fun h => by obtain ⟨ba, bc, e, f⟩ := h3 h; exact ⟨ba, bc, e, fun h => ⟨(f h).1.below hbz (Nat.le_refl _), far_mono (f h).2 hbz.size⟩⟩), (i1), (i2), (i3), (fun _ => rfl), (fun _ => ⟨wi.heap.size, rfl, hb.size, by simp, fun _ => World.alloc_heap_new _ _⟩), (fun h => by
        obtain ⟨ua, uc, va, vc, ps, B, Wc, e4, e6, f1, f2, f3, f4, f5, f6⟩ := h4 h
        rw [hb'] at f4
        exact ⟨ua, uc, va, vc, ps, B, Wc, e4, e6, f1, f2, f3.below hbz (Nat.le_refl _), gb_ns (f4.trans (gb_of_below hbz)) _, fun P hP => .inr (by cases hP; exact f4.size), fun h => absurd h (by rw [show updB b 9 10 = b 10 from rfl, n10]; decide)⟩), (h5), (h7), (h8), (h11), (h12)⟩
    ·
     intro hb' hd hK
     have d9 := hd 9 (by kernel_rfl)
     have g19 : t[(19 : Nat)]? = some (vals 9) := hon 9 19 rfl
     have d6 := hd 6 (by kernel_rfl)
     have g105 : t[(105 : Nat)]? = some (vals 6) := hon 6 105 rfl
     have d5 := i2 d6
     have d4 := i3 d5
     obtain ⟨ua, uc, va, vc, ps, B, Wc, e4, e6, f1, f2, f3, f4, f5, f6⟩ := h4 d4
     obtain ⟨P, e9, q1, q2, q3⟩ := h9 d9
     have hP := q3 hb'
     rw [e6 d6] at g105
     rw [e9] at g19
     have x0 := hfroz (k := 0) hP
     have z0 := hcell (k := 0) (v := .int .i64 0) hP rfl
     have hP0 := heap_setCell_same _ P 0 _ _ (.int .i64 tx) hP
     have x1 := hfroz (k := 1) hP0
     have z1 := hcell (k := 1) (v := .int .i64 0) hP0 rfl
     have hP1 := heap_setCell_same _ P 1 _ _ (.int .i64 tz) hP0
     have x2 := hfroz (k := 2) hP1
     have z2 := hcell (k := 2) (v := .slice none 0 0) hP1 rfl
     have hP2 := heap_setCell_same _ P 2 _ _ (.slice ua n uc) hP1
     have x3 := hfroz (k := 3) hP2
     have z3 := hcell (k := 3) (v := .slice none 0 0) hP2 rfl
     have hP3 := heap_setCell_same _ P 3 _ _ (.slice va m vc) hP2
     have hgw := (((grown_set wi P 0 (.int .i64 tx)).trans (grown_set _ P 1 (.int .i64 tz))).trans (grown_set _ P 2 (.slice ua n uc))).trans (grown_set _ P 3 (.slice va m vc))
     rw [d9, e9] at f4 f5
     replace f4 : Wc.grownBy wi (some P) := f4
     have f3n := f3.grown0 hgw ((drs_ne f3 hP).imp id fun q ad had e => q ad had (Option.some.inj e).symm)
     clear hP hP0 hP1 hP2
     clear hoff hon hd
     refine wpOp_of rfl rfl ?_
     go_simp
     have hbw := below_set hb q1 hgw
     exact hK.out undef _ ⟨(hbw), (h0), (h1), (h2), (fun h => by obtain ⟨ba, bc, e, f⟩ := h3 h; exact ⟨ba, bc, e, fun h => absurd (show b 4 = false from h) (by rw [d4]; decide)⟩), (fun _ => d6), (i2), (i3), (fun _ => d9), (fun _ => ⟨P, e9, q1, by simpa using q2, fun h => by cases (show true = false from h)⟩), (fun _ => ⟨ua, uc, va, vc, ps, B, Wc, e4, e6, f1, f2, f3n, by show World.grownBy _ _ (oP (b 9) (vals 9)); rw [d9, e9]; exact f4.trans hgw, by show ∀ P, oP (b 9) (vals 9) = some P → _; rw [d9, e9]; exact f5, fun _ => ⟨P, e9, hP3⟩⟩), (h5), (h7), (h8), (h11), (h12)⟩
    ·
     intro hb' hd hK
     have d7 := hd 7 (by kernel_rfl)
     have g106 : t[(106 : Nat)]? = some (.int .i64 (n9 : Nat)) := (hon 7 106 rfl).trans (congrArg some (h7 d7))
     clear hoff hon hd
     refine wpOp_of rfl rfl ?_
     go_simp
     exact hK.out _ _ ⟨(hb), (h0), (h1), (h2), (h3), (i1), (i2), (i3), (i4), (h9), (h4), (h5), (h7), (h8), (fun _ => rfl), (h12)⟩
    ·
     intro hb' hd hK
     have d8 := hd 8 (by kernel_rfl)
     have g107 : t[(107 : Nat)]? = some (.int .i64 0) := (hon 8 107 rfl).trans (congrArg some (h8 d8))
     clear hoff hon hd
     refine wpOp_of rfl rfl ?_
     go_simp
     exact hK.out _ _ ⟨(hb), (h0), (h1), (h2), (h3), (i1), (i2), (i3), (i4), (h9), (h4), (h5), (h7), (h8), (h11), (fun _ => rfl)⟩
   ·
    intro bq vals wi hR hall
    obtain ⟨hb, h0, h1, h2, h3, i1, i2, i3, i4, h9, h4, h5, h7, h8, h11, h12⟩ := hR
    obtain ⟨ua, uc, va, vc, ps, B, Wc, e4, e6, f1, f2, f3, f4, f5, f6⟩ := h4 (hall 4 (by decide))
    obtain ⟨P, e9, hP⟩ := f6 (hall 10 (by decide))
    rw [hall 9 (by decide), e9] at f4 f5
    have f1c := tile_rows f1 f4 f5
    have e11 := h11 (hall 11 (by decide))
    have e12 := h12 (hall 12 (by decide))
    dsimp only [over]
    rw [e9, e11, e12]
    clear h0 h1 h2 h3 h4 h5 h7 h8 h9 h11 h12 i1 i2 i3 i4 e4 e6 e9 e11 e12 f1 f4 f5 f6 hall
    have hRr := hR9.trans (hb.mono hR9.size)
    have hBr := HB1.out.trans (hRr.mono HB1.out.size)
    have SM := Lib.hid (same19_same tx tz ua a n uc c ps xs va b m vc d ds wi f1c (HXR.out _ hBr) f2 f3 (HDR.out _ hBr))
    clear f1c f2 f3 hB9 hBr hb hR9 RT HM9 HG9 HC9
    have hT := hkeep hRr HT.out
    have t0 := hcell (k := 0) (v := .int .i64 tx) hT rfl
    have t1 := hcell (k := 1) (v := .int .i64 tz) hT rfl
    have t2 := hcell (k := 2) (v := .slice a n c) hT rfl
    have t3 := hcell (k := 3) (v := .slice b m d) hT rfl
    clear hT
    have d0 := hcell (k := 0) (v := .int .i64 tx) hP rfl
    have d1 := hcell (k := 1) (v := .int .i64 tz) hP rfl
    have d2 := hcell (k := 2) (v := .slice ua n uc) hP rfl
    have d3 := hcell (k := 3) (v := .slice va m vc) hP rfl
    clear hP
    go_wp2_with fail
    refine SM.out.mono ?_
    rintro e w11 ⟨rfl, hb11⟩
    have hR11 := hRr.trans (hb11.mono hRr.size)
    clear hb11 hRr SM d0 d1 d2 d3
    clear t0 t1 t2 t3
    go_wp2
    go_meet
    exact hR11
 case rest =>
 obtain ⟨wR, hwR⟩ : ∃ W : World, W = wc := ⟨_, rfl⟩
 rw [← hwR] at hcut
 rw [← hwR]
 clear hwR
 have hRx := hcut
 have hBx := HB1.out.trans (hRx.mono HB1.out.size)
 clear hcut
 go_wp2_with fail
 refine (RZ.out _ hBx).mono ?_
 rintro e w13 ⟨⟨ua, un, uc⟩, ⟨va, vn, vc⟩, ⟨ya, yn, yc⟩, rfl, hs13, hb13⟩
 have hR13 := hRx.trans (hb13.mono hRx.size)
 clear hb13 hRx hBx RZ
 dsimp only [cfgV, soupV, SHead.v]
 obtain ⟨W7, hW7⟩ : ∃ W, W = (w13.alloc (.cells #[.int .i64 cfz.clear, .int .i64 cfz.climb, .int .i64 cfz.height, .int .i64 cfz.rise, .int .i64 cfz.run, .int .i64 cfz.w, .int .i64 cfz.d] 23 (0, 0))).alloc (.cells #[.slice ua un uc, .slice va vn vc, .slice ya yn yc] 28 (0, 0)) := ⟨_, rfl⟩
 have hb7 : Below w13.heap.size w13 ((w13.alloc (.cells #[.int .i64 cfz.clear, .int .i64 cfz.climb, .int .i64 cfz.height, .int .i64 cfz.rise, .int .i64 cfz.run, .int .i64 cfz.w, .int .i64 cfz.d] 23 (0, 0))).alloc (.cells #[.slice ua un uc, .slice va vn vc, .slice ya yn yc] 28 (0, 0))) := ((Below.refl _ _).alloc (Nat.le_refl _) _).alloc (by simp) _
 have hC7 := halloc (World.alloc_heap_new w13 (.cells #[.int .i64 cfz.clear, .int .i64 cfz.climb, .int .i64 cfz.height, .int .i64 cfz.rise, .int .i64 cfz.run, .int .i64 cfz.w, .int .i64 cfz.d] 23 (0, 0))) (.cells #[.slice ua un uc, .slice va vn vc, .slice ya yn yc] 28 (0, 0))
 have hS7 := World.alloc_heap_new (w13.alloc (.cells #[.int .i64 cfz.clear, .int .i64 cfz.climb, .int .i64 cfz.height, .int .i64 cfz.rise, .int .i64 cfz.run, .int .i64 cfz.w, .int .i64 cfz.d] 23 (0, 0))) (.cells #[.slice ua un uc, .slice va vn vc, .slice ya yn yc] 28 (0, 0))
 simp only [World.size_alloc] at hS7
 rw [← hW7] at hb7 hC7 hS7
 have hR7 := hR13.trans (hb7.mono hR13.size)
 have HS7 := Lib.hid (hs13.below hb7)
 clear hs13 hb7 hR13
 obtain ⟨Q0, hQ0⟩ : ∃ S, S = w13.heap.size := ⟨_, rfl⟩
 obtain ⟨Q1, hQ1⟩ : ∃ S, S = Q0 + 1 := ⟨_, rfl⟩
 rw [← hQ0] at hC7 hS7
 rw [← hQ1] at hS7
 have HC7 := Lib.hid hC7
 have HT7 := Lib.hid hS7
 clear hC7 hS7
 go_upto_if 130 with fail
 rw [← hW7, ← hQ0, ← hQ1]
 clear hW7 hQ0 hQ1
 go_cut [26, 27] from 130 to 156 (fun s26 s27 wx => Below W1.heap.size W1 wx)
 case first =>
  by_cases h0 : ez = 0
  case neg =>
   go_wp2
   go_meet
   exact hR7
  case pos =>
   subst h0
   obtain ⟨hz0, nn, hnu, hnn, hnL⟩ := soup_bw HZB.out HVZ.out.symm
   subst hnu
   rw [HZL.out] at hnn
   have hpos : 0 < (encs (soupN cfz sz)).length := soup_pos _ _
   have hnn0 : 0 < nn := by rw [hnL, List.length_take] at hpos; omega
   have CS2 := Lib.hid (codesoup_any cfz _ _ _ sz _ HS7.out)
   unfold NumPost at CS2
   rw [hz0, show soupB cfz sz = encs (soupN cfz sz) from by unfold soupB; rw [if_pos hz0]] at CS2
   dsimp only [cfgV, soupV, SHead.v] at CS2
   obtain ⟨LL, hLL⟩ : ∃ L, L = encs (soupN cfz sz) := ⟨_, rfl⟩
   rw [← hLL] at CS2 hnL
   clear hLL
   obtain ⟨kk, hkk⟩ : ∃ k, k = LL.length := ⟨_, rfl⟩
   rw [← hkk] at CS2
   clear hkk
   have hB7 := HB1.out.trans (hR7.mono HB1.out.size)
   have hZ7 := (HZ.out _ hB7).1
   obtain ⟨q2, o2, rfl, _⟩ := hZ7.at0 (by omega)
   have hck := hZ7.le
   have hmx := hZ7.max
   have hI0 : (0 : Int) ≤ (nn : Int) := by omega
   have hI1 : (nn : Int) ≤ (zc : Int) := by omega
   have hI2 : ¬ (nn : Int) < (0 : Int) := by omega
   have hI3 : ¬ (zn : Int) < (nn : Int) := by omega
   have HTK := Lib.hid (fun W (hb : Below w.heap.size w W) => (HZ.out W hb).1.take hnn)
   have HNL := Lib.hid hnL
   clear hz0 hpos hnn0 hB7 hZ7 hnL hnn
   have hC7 := HC7.out
   have hS7 := HT7.out
   have d0 := hcell (k := 0) (v := .int .i64 cfz.clear) hC7 rfl
   have d1 := hcell (k := 1) (v := .int .i64 cfz.climb) hC7 rfl
   have d2 := hcell (k := 2) (v := .int .i64 cfz.height) hC7 rfl
   have d3 := hcell (k := 3) (v := .int .i64 cfz.rise) hC7 rfl
   have d4 := hcell (k := 4) (v := .int .i64 cfz.run) hC7 rfl
   have d5 := hcell (k := 5) (v := .int .i64 cfz.w) hC7 rfl
   have d6 := hcell (k := 6) (v := .int .i64 cfz.d) hC7 rfl
   have f0 := hcell (k := 0) (v := .slice ua un uc) hS7 rfl
   have f1 := hcell (k := 1) (v := .slice va vn vc) hS7 rfl
   have f2 := hcell (k := 2) (v := .slice ya yn yc) hS7 rfl
   clear hC7 hS7 HC7 HT7 HS7
   go_wp2_with fail
   refine CS2.out.mono ?_
   rintro e w8 ⟨v8, rfl, hv8, hb8⟩
   have hR8 := hR7.trans (hb8.mono hR7.size)
   have hB8 := HB1.out.trans (hR8.mono HB1.out.size)
   obtain ⟨xa, xc, rfl, hxs⟩ := hv8.reads
   have hxs := Lib.hid hxs
   clear hb8 hR7 CS2 hv8
   clear d0 d1 d2 d3 d4 d5 d6 f0 f1 f2
   go_wp2_with fail
   refine (bytes_bel _ _ _ _ _ _ _ _ _ hxs.out (HTK.out _ hB8)).mono ?_
   rw [HNL.out, decide_eq_true rfl]
   rintro e wz ⟨rfl, hbz⟩
   have hRz := hR8.trans (hbz.mono hR8.size)
   clear hbz hR8 hB8 hxs HTK
   go_wp2
   go_meet
   exact hRz
 case rest =>
 obtain ⟨wR, hwR⟩ : ∃ W : World, W = wc := ⟨_, rfl⟩
 rw [← hwR] at hcut
 rw [← hwR]
 clear hwR
 have hRx := hcut
 have hBx := HB1.out.trans (hRx.mono HB1.out.size)
 clear hcut
 have hC := hkeep hRx HC.out
 have c0 := hcell (k := 0) (v := .int .i64 cf.clear) hC rfl
 have c1 := hcell (k := 1) (v := .int .i64 cf.climb) hC rfl
 have c2 := hcell (k := 2) (v := .int .i64 cf.height) hC rfl
 have c3 := hcell (k := 3) (v := .int .i64 cf.rise) hC rfl
 have c4 := hcell (k := 4) (v := .int .i64 cf.run) hC rfl
 have c5 := hcell (k := 5) (v := .int .i64 cf.w) hC rfl
 have c6 := hcell (k := 6) (v := .int .i64 cf.d) hC rfl
 clear hC
 go_wp2_with fail
 refine (TZ.out _ hBx).mono ?_
 rintro e w18 ⟨ua, un, uc, ps, va, vn, vc, rfl, hp, hps, hq, hb18⟩
 have hR18 := hRx.trans (hb18.mono hRx.size)
 clear c0 c1 c2 c3 c4 c5 c6
 clear hb18 hRx hBx TZ
 obtain ⟨W7, hW7⟩ : ∃ W, W = w18.alloc (.cells #[.int .i64 xz, .int .i64 yz, .slice ua un uc, .slice va vn vc] 32 (0, 0)) := ⟨_, rfl⟩
 have hb7 : Below w18.heap.size w18 (w18.alloc (.cells #[.int .i64 xz, .int .i64 yz, .slice ua un uc, .slice va vn vc] 32 (0, 0))) := (Below.refl _ _).alloc (Nat.le_refl _) _
 have hT7 := World.alloc_heap_new w18 (.cells #[.int .i64 xz, .int .i64 yz, .slice ua un uc, .slice va vn vc] 32 (0, 0))
 rw [← hW7] at hb7 hT7
 have hR7 := hR18.trans (hb7.mono hR18.size)
 have CS2 := codetile_any cf xz yz ua un uc ps va vn vc dz W7 (hp.rc.below hb7 (Nat.le_refl _)) (hq.below hb7 (Nat.le_refl _))
 rw [hps] at CS2
 have CS2 := Lib.hid CS2
 clear hp hps hq hb7 hR18
 obtain ⟨Q0, hQ0⟩ : ∃ S, S = w18.heap.size := ⟨_, rfl⟩
 rw [← hQ0] at hT7
 have HT7 := Lib.hid hT7
 clear hT7
 go_upto_if 165 with fail
 rw [← hW7, ← hQ0]
 clear hW7 hQ0
 go_cut [29, 30] from 165 to 191 (fun s29 s30 wx => Below W1.heap.size W1 wx)
 case first =>
  by_cases h0 : tez = 0
  case neg =>
   go_wp2
   go_meet
   exact hR7
  case pos =>
   subst h0
   obtain ⟨hz0, nn, hnu, hnn, hnL⟩ := tile_bw HZB.out HTZ.out.symm
   subst hnu
   rw [HZL.out] at hnn
   have hpos : 0 < (encs (tileN xz yz rz)).length := encs_pos _ _
   have hnn0 : 0 < nn := by rw [hnL, List.length_take] at hpos; omega
   unfold TilePost at CS2
   rw [hz0, show tileB cf xz yz rz dz = encs (tileN xz yz rz) from by unfold tileB; rw [if_pos hz0]] at CS2
   dsimp only [cfgV] at CS2
   obtain ⟨LL, hLL⟩ : ∃ L, L = encs (tileN xz yz rz) := ⟨_, rfl⟩
   rw [← hLL] at CS2 hnL
   clear hLL
   have hB7 := HB1.out.trans (hR7.mono HB1.out.size)
   have hZ7 := (HZ.out _ hB7).1
   obtain ⟨q2, o2, rfl, _⟩ := hZ7.at0 (by omega)
   have hck := hZ7.le
   have hmx := hZ7.max
   have hI0 : (0 : Int) ≤ (nn : Int) := by omega
   have hI1 : (nn : Int) ≤ (zc : Int) := by omega
   have hI2 : ¬ (nn : Int) < (0 : Int) := by omega
   have hI3 : ¬ (zn : Int) < (nn : Int) := by omega
   have HTK := Lib.hid (fun W (hb : Below w.heap.size w W) => (HZ.out W hb).1.take hnn)
   have HNL := Lib.hid hnL
   clear hz0 hpos hnn0 hB7 hZ7 hnL hnn
   have hT7 := HT7.out
   have hC := hkeep hR7 HC.out
   have c0 := hcell (k := 0) (v := .int .i64 cf.clear) hC rfl
   have c1 := hcell (k := 1) (v := .int .i64 cf.climb) hC rfl
   have c2 := hcell (k := 2) (v := .int .i64 cf.height) hC rfl
   have c3 := hcell (k := 3) (v := .int .i64 cf.rise) hC rfl
   have c4 := hcell (k := 4) (v := .int .i64 cf.run) hC rfl
   have c5 := hcell (k := 5) (v := .int .i64 cf.w) hC rfl
   have c6 := hcell (k := 6) (v := .int .i64 cf.d) hC rfl
   clear hC
   have d0 := hcell (k := 0) (v := .int .i64 xz) hT7 rfl
   have d1 := hcell (k := 1) (v := .int .i64 yz) hT7 rfl
   have d2 := hcell (k := 2) (v := .slice ua un uc) hT7 rfl
   have d3 := hcell (k := 3) (v := .slice va vn vc) hT7 rfl
   clear hT7 HT7
   go_wp2_with fail
   refine CS2.out.mono ?_
   rintro e w8 ⟨v8, kk, rfl, hv8, hb8⟩
   have hR8 := hR7.trans (hb8.mono hR7.size)
   have hB8 := HB1.out.trans (hR8.mono HB1.out.size)
   obtain ⟨xa, xc, rfl, hxs⟩ := hv8.reads
   have hxs := Lib.hid hxs
   clear hb8 hR7 CS2 hv8
   clear c0 c1 c2 c3 c4 c5 c6
   clear d0 d1 d2 d3
   go_wp2_with fail
   refine (bytes_bel _ _ _ _ _ _ _ _ _ hxs.out (HTK.out _ hB8)).mono ?_
   rw [HNL.out, decide_eq_true rfl]
   rintro e wz ⟨rfl, hbz⟩
   have hRz := hR8.trans (hbz.mono hR8.size)
   clear hbz hR8 hB8 hxs HTK
   go_wp2
   go_meet
   exact hRz
 case rest =>
 obtain ⟨wR, hwR⟩ : ∃ W : World, W = wc := ⟨_, rfl⟩
 rw [← hwR] at hcut
 rw [← hwR]
 clear hwR
 have hRx := hcut
 have hBx := HB1.out.trans (hRx.mono HB1.out.size)
 clear hcut hRx
 go_wp2_with fail
 refine (wakes20_any _).mono ?_
 rintro e wz ⟨rfl, hbz⟩
 have hBZ := hBx.trans (hbz.mono hBx.size)
 go_wp2
 go_ret
 exact ⟨rfl, hBZ⟩
end Go.Proofs.YtgfmdgiepomkiaaGreat
