/- Walk: all doors of tiles: mesh.all. -/
import Derived.Test.YtgfmdgiepomkiaaSmB
import Derived.Test.YtgfmdgiepomkiaaKi
namespace Go.Proofs.Ytgfmdgiepomkiaa
open Go.RowKit Go.Sort
attribute [local go_sem] Instr.index

def AlPost (w : World) (e : Ending) (w' : World) : Prop := (∃ a m c ds, e = .returned (.slice a m c) ∧ SlR drC 6 w' a m c ds) ∧ Below w.heap.size w w'
set_option maxRecDepth 100000 in
set_option maxHeartbeats 16000000 in
theorem msall_any (cf : Cfg) (a : Option Addr) (n c : Nat) (ts : List Tl) (w : World) (hx : SlTl w a n c ts) (hr : ∀ t ∈ ts, t.rn ≤ 60 ∧ t.dn ≤ 500) (hn9 : n ≤ 9) :
    Calls Try.prog 84 #[cfgV cf, .slice a n c] w (AlPost w) := by
  have Hl := Lib.hid hx.sl.len
  have hmax := hx.sl.max
  have hle := hx.sl.le
  have HX := Lib.hid (fun W (hb : Below w.heap.size w W) => hx.below hb (Nat.le_refl _))
  have HR := Lib.hid hr
  have FI := Lib.hid (fun q W (hb : Below w.heap.size w W) => smfirst_any a n c ts q W (hx.below hb (Nat.le_refl _)))
  have SB := Lib.hid (fun W (hb : Below w.heap.size w W) => smbuild_any cf a n c ts W (hx.below hb (Nat.le_refl _)) (fun t ht => (hr t ht).1) hn9)
  clear hx hr
  have hB : Below w.heap.size w (w.alloc (cfO cf)) := (Below.refl _ _).alloc (Nat.le_refl _) _
  have hC := World.alloc_heap_new w (cfO cf)
  have hL : w.heap.size + 1 ≤ (w.alloc (cfO cf)).heap.size := by simp
  obtain ⟨W1, hW1⟩ : ∃ W, W = w.alloc (cfO cf) := ⟨_, rfl⟩
  rw [← hW1] at hB hC hL
  obtain ⟨C, hC0⟩ : ∃ S, S = w.heap.size := ⟨_, rfl⟩
  obtain ⟨L, hL0⟩ : ∃ S, S = w.heap.size + 1 := ⟨_, rfl⟩
  have hCL : C < L := by omega
  have hwL : w.heap.size ≤ L := by omega
  rw [← hC0] at hC
  rw [← hL0] at hL
  unfold SbPost at SB
  dsimp only [cfO, cfgV] at hC hW1 SB ⊢
  go_enter Try.func84, Try.ntmps84
  go_upto_region 1 with fail
  rw [← hW1, ← hC0]
  clear hW1 hC0 hL0
  go_wp2_with fail
  go_loopw [4, 14] (fun s4 s14 wr => ∃ (i : Nat) (ua : Option Addr) (m uc : Nat) (us : List Dr), s4 = .slice ua m uc ∧ s14 = .int .i64 i ∧ i ≤ n ∧ m ≤ 500 * i ∧ OwnR drC 6 96 L wr (.slice ua m uc) m us ∧ wr.heap[C]? = some (.cells #[.int .i64 cf.clear, .int .i64 cf.climb, .int .i64 cf.height, .int .i64 cf.rise, .int .i64 cf.run, .int .i64 cf.w, .int .i64 cf.d] 23 (0, 0)) ∧ Below w.heap.size w wr ∧ L ≤ wr.heap.size) (fun _ s14 _ => n - (intOf s14).toNat)
  case atStart => exact ⟨0, none, 0, 0, [], rfl, rfl, Nat.zero_le _, Nat.zero_le _, OwnR.nil _ _ _ _ _, hC, hB, hL⟩
  case round =>
    clear hC hB hL
    obtain ⟨i, ua, m, uc, us, rfl, rfl, hi, hm, hown, hC, hB, hL⟩ := hrel
    by_cases hin : i < n
    case neg =>
      obtain rfl : n = i := by omega
      have hI : ¬ (n : Int) < (n : Int) := by omega
      have HO := Lib.hid hown
      have c0 := hcell (k := 0) (v := .int .i64 cf.clear) hC rfl
      have c1 := hcell (k := 1) (v := .int .i64 cf.climb) hC rfl
      have c2 := hcell (k := 2) (v := .int .i64 cf.height) hC rfl
      have c3 := hcell (k := 3) (v := .int .i64 cf.rise) hC rfl
      have c4 := hcell (k := 4) (v := .int .i64 cf.run) hC rfl
      have c5 := hcell (k := 5) (v := .int .i64 cf.w) hC rfl
      have c6 := hcell (k := 6) (v := .int .i64 cf.d) hC rfl
      clear hown
      go_wp2_with fail
      refine (SB.out _ hB).mono ?_
      rintro e w2 ⟨⟨a2, m2, k2, ds2, E, rfl, hs2, hm2⟩, hb2⟩
      clear c0 c1 c2 c3 c4 c5 c6
      have HO2 := Lib.hid (HO.out.below hb2 (Nat.le_refl _))
      have hB2 := hB.trans (hb2.mono hB.size)
      have hL2 := Nat.le_trans hL hb2.size
      have HS2 := Lib.hid hs2
      clear hs2 HO hb2 hB hL hC
      go_wp2_with (at_builtin; refine wpList_appSA (f := drC) (sz := 6) (e := 96) _ drC_len drC_one rfl _ _ 25 rfl (.agg #[.int .i64 0, .int .i64 0, .int .i64 0, .int .i64 0, .int .i64 0, .int .i64 0]) 48 Try.underlying25 info_dr rfl (by decide) L _ m us HO2.out (by rfl) a2 m2 k2 ds2 HS2.out (by rfl) (by omega) (by omega) hL2 ?_; intro v1 w3 ho1 hb3; obtain ⟨xa, xc, rfl, hsl⟩ := OwnR.reads drC_len ho1; have hsl := Lib.hid hsl; clear ho1)
      go_ret
      exact And.intro ⟨xa, m + m2, xc, us ++ ds2, rfl, hsl.out⟩ (hB2.trans (hb3.mono hwL))
    have hI : (i : Int) < (n : Int) := by omega
    have wi1 : IntKind.i64.wrap ((i : Int) + 1) = ((i + 1 : Nat) : Int) := by rw [IntKind.wrap_i64]; omega
    obtain ⟨⟨tx, tz, ra, rn, rc, rs, da, dn, dc, dl⟩, htk⟩ : ∃ t, ts[i]? = some t := ⟨_, List.getElem?_eq_getElem (by rw [Hl.out]; exact hin)⟩
    have hdn : dn ≤ 500 := (HR.out _ (List.mem_of_getElem? htk)).2
    have HD := Lib.hid (fun W (hb : Below w.heap.size w W) => ((HX.out W hb).one htk).2)
    have hw := HX.out _ hB
    obtain ⟨B, off, rfl, _, _⟩ := hw.sl.at0 (by omega)
    have r0 := hw.sl.cells htk 0 _ rfl
    have r1 := hw.sl.cells htk 1 _ rfl
    have r2 := hw.sl.cells htk 2 _ rfl
    have r3 := hw.sl.cells htk 3 _ rfl
    simp only [Nat.add_zero] at r0
    dsimp only [tlC] at r0 r1 r2 r3 HD
    have hTA : Below wr.heap.size wr (wr.alloc (.cells #[.int .i64 tx, .int .i64 tz, .slice ra rn rc, .slice da dn dc] 27 (0, 0))) := (Below.refl _ _).alloc (Nat.le_refl _) _
    have hTN := World.alloc_heap_new wr (.cells #[.int .i64 tx, .int .i64 tz, .slice ra rn rc, .slice da dn dc] 27 (0, 0))
    have hown3 := hown.below hTA (Nat.le_refl _)
    have hC3 := hkeep hTA hC
    have hB3 := hB.trans (hTA.mono hB.size)
    have hL3 := Nat.le_trans hL hTA.size
    clear hw htk hown hC hB hL
    go_upto_region 4 with fail
    obtain ⟨W3, hW3⟩ : ∃ W, W = wr.alloc (.cells #[.int .i64 tx, .int .i64 tz, .slice ra rn rc, .slice da dn dc] 27 (0, 0)) := ⟨_, rfl⟩
    obtain ⟨S3, hS3⟩ : ∃ S, S = wr.heap.size := ⟨_, rfl⟩
    rw [← hW3] at hTN hown3 hC3 hB3 hL3
    rw [← hS3] at hTN
    rw [← hW3, ← hS3]
    clear hW3 hS3 hTA r0 r1 r2 r3
    go_wp2_with fail
    refine (FI.out _ _ hB3).mono ?_
    rintro e w4 ⟨⟨F, rfl⟩, hb4⟩
    have t3 := hcell (k := 3) (v := .slice da dn dc) (hkeep hb4 hTN) rfl
    have hown4 := hown3.below hb4 (Nat.le_refl _)
    have hC4 := hkeep hb4 hC3
    have hB4 := hB3.trans (hb4.mono hB3.size)
    have hL4 := Nat.le_trans hL3 hb4.size
    clear hown3 hC3 hB3 hL3 hb4 hTN
    go_wp2_with fail
    clear t3
    go_loopw [4, 25] (fun s4 s25 wr => ∃ (j : Nat) (ua : Option Addr) (k uc : Nat) (us : List Dr), s4 = .slice ua k uc ∧ s25 = .int .i64 j ∧ j ≤ dn ∧ k ≤ 500 * i + j ∧ OwnR drC 6 96 L wr (.slice ua k uc) k us ∧ wr.heap[C]? = some (.cells #[.int .i64 cf.clear, .int .i64 cf.climb, .int .i64 cf.height, .int .i64 cf.rise, .int .i64 cf.run, .int .i64 cf.w, .int .i64 cf.d] 23 (0, 0)) ∧ Below w.heap.size w wr ∧ L ≤ wr.heap.size) (fun _ s25 _ => dn - (intOf s25).toNat)
    case atStart => exact ⟨0, ua, m, uc, us, rfl, rfl, Nat.zero_le _, by omega, hown4, hC4, hB4, hL4⟩
    case round =>
      clear hown4 hC4 hB4 hL4
      obtain ⟨j, ua, k, uc, us, rfl, rfl, hj, hk, hown, hC, hB, hL⟩ := hrel
      by_cases hjn : j < dn
      case neg =>
        obtain rfl : dn = j := by omega
        have hJ : ¬ (dn : Int) < (dn : Int) := by omega
        have HO := Lib.hid hown
        clear hown
        go_wp2
        go_roundw
        case rel => exact ⟨i + 1, ua, k, uc, us, rfl, by go_num, by omega, by omega, HO.out, hC, hB, hL⟩
        case measure => simp [intOf]; omega
      have hJ : (j : Int) < (dn : Int) := by omega
      have wj1 : IntKind.i64.wrap ((j : Int) + 1) = ((j + 1 : Nat) : Int) := by rw [IntKind.wrap_i64]; omega
      have hD := HD.out _ hB
      have hdl := hD.len
      obtain ⟨d, hdj⟩ : ∃ d, dl[j]? = some d := ⟨_, List.getElem?_eq_getElem (by omega)⟩
      obtain ⟨bd, ofd, rfl, hbd, _⟩ := hD.at0 (by omega)
      have p0 := SlR.cells hD hdj 0 _ rfl
      have p1 := SlR.cells hD hdj 1 _ rfl
      have p2 := SlR.cells hD hdj 2 _ rfl
      have p3 := SlR.cells hD hdj 3 _ rfl
      have p4 := SlR.cells hD hdj 4 _ rfl
      have p5 := SlR.cells hD hdj 5 _ rfl
      simp only [Nat.add_zero] at p0
      clear hdj hD hdl
      obtain ⟨d_a, d_b, dx0, dz0, dx1, dz1⟩ := d
      dsimp only at p0 p1 p2 p3 p4 p5
      obtain ⟨ea, hea⟩ : ∃ e, IntKind.i64.wrap (d_a + F) = e := ⟨_, rfl⟩
      obtain ⟨eb, heb⟩ : ∃ e, IntKind.i64.wrap (d_b + F) = e := ⟨_, rfl⟩
      go_upto_region 9 with fail
      have hA5 : Below wr.heap.size wr (wr.alloc (.cells #[.int .i64 ea, .int .i64 eb, .int .i64 dx0, .int .i64 dz0, .int .i64 dx1, .int .i64 dz1] 96 (0, 0))) := (Below.refl _ _).alloc (Nat.le_refl _) _
      have hd5 := World.alloc_heap_new wr (.cells #[.int .i64 ea, .int .i64 eb, .int .i64 dx0, .int .i64 dz0, .int .i64 dx1, .int .i64 dz1] 96 (0, 0))
      have HO5 := Lib.hid (hown.below hA5 (Nat.le_refl _))
      have hC5 := hkeep hA5 hC
      have hB5 := hB.trans (hA5.mono hB.size)
      have hL5 := Nat.le_trans hL hA5.size
      obtain ⟨W5, hW5⟩ : ∃ W, W = wr.alloc (.cells #[.int .i64 ea, .int .i64 eb, .int .i64 dx0, .int .i64 dz0, .int .i64 dx1, .int .i64 dz1] 96 (0, 0)) := ⟨_, rfl⟩
      rw [← hW5] at hd5 HO5 hC5 hB5 hL5
      rw [← hW5]
      clear hW5 hown hC hB hL hA5 hbd p0 p1 p2 p3 p4 p5 hea heb
      have n0 := hcell (k := 0) (v := .int .i64 ea) hd5 rfl
      have n1 := hcell (k := 1) (v := .int .i64 eb) hd5 rfl
      have n2 := hcell (k := 2) (v := .int .i64 dx0) hd5 rfl
      have n3 := hcell (k := 3) (v := .int .i64 dz0) hd5 rfl
      have n4 := hcell (k := 4) (v := .int .i64 dx1) hd5 rfl
      have n5 := hcell (k := 5) (v := .int .i64 dz1) hd5 rfl
      clear hd5
      go_wp2_with (at_builtin; refine wpList_appR (f := drC) (sz := 6) (e := 96) (B := L) (n := k) (xs := us) _ drC_len drC_one rfl _ _ 25 rfl (.agg #[.int .i64 0, .int .i64 0, .int .i64 0, .int .i64 0, .int .i64 0, .int .i64 0]) 48 Try.underlying25 info_dr rfl (by decide) ⟨ea, eb, dx0, dz0, dx1, dz1⟩ 96 HO5.out rfl rfl (by omega) (by omega) hL5 ?_; intro v' w' hown' happ; obtain ⟨xa, xc, rfl, _⟩ := OwnR.reads drC_len hown')
      have hC6 := hgrown happ.grown hC5 (fun e => by have := HO5.out.le _ e; omega)
      have hB6 := hB5.trans (happ.below (B := w.heap.size) hB5.size (fun q hq => by have := HO5.out.le q hq; omega))
      have hL6 := Nat.le_trans hL5 happ.grown.size
      clear n0 n1 n2 n3 n4 n5 happ HO5 hC5 hB5 hL5
      go_wp2
      go_roundw
      case rel => exact ⟨j + 1, xa, k + 1, xc, _, rfl, by go_num, by omega, by omega, hown', hC6, hB6, hL6⟩
      case measure => simp [intOf]; omega
end Go.Proofs.Ytgfmdgiepomkiaa
