/- Walk: the law: doors between two rectangles are the same, the other way about; and moved, if both are moved. -/
import Derived.Test.YtjiklfffcnfdjaaDrW
import Derived.Test.YtjiklfffcnfdjaaDorQ
import Derived.Test.YtjiklfffcnfdjaaBtw
import Derived.Test.YtjiklfffcnfdjaaRcrC
import Derived.Test.YtjiklfffcnfdjaaDrA
namespace Go.Proofs.Ytjiklfffcnfdjaa
open Go.RowKit Go.Sort
theorem tmod21 (x : Int) : -20 ≤ x.tmod 21 ∧ x.tmod 21 ≤ 20 := by
  have h1 := Int.tmod_lt_of_pos x (by decide : (0:Int) < 21)
  have h2 := Int.lt_tmod_of_pos x (by decide : (0:Int) < 21)
  omega
theorem own_addr1 {α : Type} {f : α → List Value} {sz : Nat} {t : TypeId} {B : Nat} {w : World} {a : Option Addr} {n c : Nat} {xs : List α} (h : OwnR f sz t B w (.slice a n c) n xs) (hn : 0 < n) : ∃ g, a = some ⟨g, 0, none⟩ := by
  rcases h.2.2 with ⟨h0, _⟩ | ⟨g, cap, cur, hv, _⟩
  · cases h0; omega
  · cases hv; exact ⟨g, rfl⟩
theorem RcSl.mv {w : World} {h : RHd} {r : Rc} (hs : RcSl w h r) (x z : Int) : RcSl w h (mvR r x z) := ⟨hs.y, hs.t⟩
def SwInv (T : Nat) (cf : Cfg) (ha : RHd) (ra qa : Rc) (hb : RHd) (rb qb : Rc) (dx dz : Int) (H : Nat) (w1 : World) (F : Value → Value → Value → Value → Value → Value → Value → Value → Value → Value → Value → Array Value) (D : List Deferred) (L : Array Bool) (a : Act) (w : World) : Prop :=
  ∃ (s0 s1 s2 s3 s4 s5 s6 s7 s8 s9 s10 : Value), a = { tmps := F s0 s1 s2 s3 s4 s5 s6 s7 s8 s9 s10, defers := D } ∧
    Below H w1 w ∧
    w.heap[T]? = some (cfO cf) ∧
    w.heap[T + 1]? = some (rcO ha ra) ∧
    w.heap[T + 2]? = some (rcO hb rb) ∧
    (L.getD 0 false = true → s0 = .agg #[.int .i64 cf.clear, .int .i64 cf.climb, .int .i64 cf.height, .int .i64 cf.rise, .int .i64 cf.run, .int .i64 cf.w, .int .i64 cf.d]) ∧
    (L.getD 1 false = true → s1 = rcV ha ra) ∧
    (L.getD 2 false = true → s2 = .int .i64 dx) ∧
    (L.getD 3 false = true → s3 = .int .i64 dz) ∧
    (L.getD 4 false = true → s4 = rcV ha qa) ∧
    (L.getD 5 false = true → s5 = rcV hb rb) ∧
    (L.getD 6 false = true → s6 = .int .i64 dx) ∧
    (L.getD 7 false = true → s7 = .int .i64 dz) ∧
    (L.getD 8 false = true → s8 = rcV hb qb) ∧
    (L.getD 9 false = true → DrAt w1.heap.size (betw cf qa qb) s9 w) ∧
    (L.getD 10 false = true → DrAt w1.heap.size (betw cf qa qb) s10 w)


set_option maxRecDepth 100000 in
set_option maxHeartbeats 16000000 in
theorem doorsswap_core (WK0 : ∀ W : World, Calls Try.prog 9 #[] W fun e w' => e = .returned (.bool true) ∧ Below W.heap.size W w')
    (cf : Cfg) (ha : RHd) (ra : Rc) (hb : RHd) (rb : Rc) (ex ez : Int) (w : World) (hs : RcSl w ha ra) (ht : RcSl w hb rb) :
    Calls Try.prog 3 #[cfgV cf, rcV ha ra, rcV hb rb, .int .i64 ex, .int .i64 ez] w fun e w' => e = .returned (.bool true) ∧ Below w.heap.size w w' := by
  have WK := Lib.hid WK0
  have RA := Lib.hid (fun W hW => refcheck17_any cf ha ra W hW)
  have RB := Lib.hid (fun W hW => refcheck17_any cf hb rb W hW)
  clear WK0
  have hB : Below w.heap.size w (((w.alloc (cfO cf)).alloc (rcO ha ra)).alloc (rcO hb rb)) := (((Below.refl _ _).alloc (Nat.le_refl _) _).alloc (by simp) _).alloc (by simp; omega) _
  have HSa := Lib.hid (fun W (hb' : Below w.heap.size w W) => hs.below hb' (Nat.le_refl _))
  have HSb := Lib.hid (fun W (hb' : Below w.heap.size w W) => ht.below hb' (Nat.le_refl _))
  clear hs ht
  have hC0 := halloc (halloc (World.alloc_heap_new w (cfO cf)) (rcO ha ra)) (rcO hb rb)
  have hA0 := halloc (World.alloc_heap_new (w.alloc (cfO cf)) (rcO ha ra)) (rcO hb rb)
  have hG0 := World.alloc_heap_new ((w.alloc (cfO cf)).alloc (rcO ha ra)) (rcO hb rb)
  simp only [World.size_alloc] at hA0 hG0
  obtain ⟨W1, hW1⟩ : ∃ W, W = ((w.alloc (cfO cf)).alloc (rcO ha ra)).alloc (rcO hb rb) := ⟨_, rfl⟩
  rw [← hW1] at hB hC0 hA0 hG0
  have hB0 := hB
  clear hB
  dsimp only [cfO, rcO, rcV, cfgV] at hC0 hA0 hG0 hW1 RA RB ⊢
  have c0 := hcell (k := 0) (v := .int .i64 cf.clear) hC0 rfl
  have c1 := hcell (k := 1) (v := .int .i64 cf.climb) hC0 rfl
  have c2 := hcell (k := 2) (v := .int .i64 cf.height) hC0 rfl
  have c3 := hcell (k := 3) (v := .int .i64 cf.rise) hC0 rfl
  have c4 := hcell (k := 4) (v := .int .i64 cf.run) hC0 rfl
  have c5 := hcell (k := 5) (v := .int .i64 cf.w) hC0 rfl
  have c6 := hcell (k := 6) (v := .int .i64 cf.d) hC0 rfl
  have a0 := hcell (k := 0) (v := .int .i64 ra.x0) hA0 rfl
  have a1 := hcell (k := 1) (v := .int .i64 ra.z0) hA0 rfl
  have a2 := hcell (k := 2) (v := .int .i64 ra.x1) hA0 rfl
  have a3 := hcell (k := 3) (v := .int .i64 ra.z1) hA0 rfl
  have a4 := hcell (k := 4) (v := .int .i64 ra.area) hA0 rfl
  have a5 := hcell (k := 5) (v := .slice ha.ya ra.ys.length ha.yc) hA0 rfl
  have a6 := hcell (k := 6) (v := .slice ha.ta ra.ts.length ha.tc) hA0 rfl
  have b0 := hcell (k := 0) (v := .int .i64 rb.x0) hG0 rfl
  have b1 := hcell (k := 1) (v := .int .i64 rb.z0) hG0 rfl
  have b2 := hcell (k := 2) (v := .int .i64 rb.x1) hG0 rfl
  have b3 := hcell (k := 3) (v := .int .i64 rb.z1) hG0 rfl
  have b4 := hcell (k := 4) (v := .int .i64 rb.area) hG0 rfl
  have b5 := hcell (k := 5) (v := .slice hb.ya rb.ys.length hb.yc) hG0 rfl
  have b6 := hcell (k := 6) (v := .slice hb.ta rb.ts.length hb.tc) hG0 rfl
  have HC0 := Lib.hid hC0
  have HA0 := Lib.hid hA0
  have HG0 := Lib.hid hG0
  clear hC0 hA0 hG0
  go_enter Try.func3, Try.ntmps3
  go_upto_region 1 with fail
  rw [← hW1]
  clear hW1
  by_cases ea : rcE cf ra = 0
  case neg =>
    have eaB : (rcE cf ra != 0) = true := by simpa using ea
    generalize rcE cf ra = q at RA ea eaB
    go_wp2_with fail
    refine (RA.out _ (HSa.out _ hB0)).mono ?_
    rintro e w1 ⟨rfl, hb1⟩
    have hB1 := hB0.trans (hb1.mono hB0.size)
    clear c0 c1 c2 c3 c4 c5 c6 a0 a1 a2 a3 a4 a5 a6 b0 b1 b2 b3 b4 b5 b6
    go_wp2_with fail
    refine (WK.out _).mono ?_
    rintro e w2 ⟨rfl, hb2⟩
    go_wp2
    go_ret
    exact ⟨rfl, hB1.trans (hb2.mono hB1.size)⟩
  rw [ea] at RA
  go_wp2_with fail
  refine (RA.out _ (HSa.out _ hB0)).mono ?_
  rintro e w1 ⟨rfl, hb1⟩
  have hC0 := HC0.out
  have hA0 := HA0.out
  have hG0 := HG0.out
  have hC1 := hkeep hb1 hC0
  have hA1 := hkeep hb1 hA0
  have hG1 := hkeep hb1 hG0
  have hB1 := hB0.trans (hb1.mono hB0.size)
  clear c0 c1 c2 c3 c4 c5 c6 a0 a1 a2 a3 a4 a5 a6 b0 b1 b2 b3 b4 b5 b6
  have c0 := hcell (k := 0) (v := .int .i64 cf.clear) hC1 rfl
  have c1 := hcell (k := 1) (v := .int .i64 cf.climb) hC1 rfl
  have c2 := hcell (k := 2) (v := .int .i64 cf.height) hC1 rfl
  have c3 := hcell (k := 3) (v := .int .i64 cf.rise) hC1 rfl
  have c4 := hcell (k := 4) (v := .int .i64 cf.run) hC1 rfl
  have c5 := hcell (k := 5) (v := .int .i64 cf.w) hC1 rfl
  have c6 := hcell (k := 6) (v := .int .i64 cf.d) hC1 rfl
  have a0 := hcell (k := 0) (v := .int .i64 ra.x0) hA1 rfl
  have a1 := hcell (k := 1) (v := .int .i64 ra.z0) hA1 rfl
  have a2 := hcell (k := 2) (v := .int .i64 ra.x1) hA1 rfl
  have a3 := hcell (k := 3) (v := .int .i64 ra.z1) hA1 rfl
  have a4 := hcell (k := 4) (v := .int .i64 ra.area) hA1 rfl
  have a5 := hcell (k := 5) (v := .slice ha.ya ra.ys.length ha.yc) hA1 rfl
  have a6 := hcell (k := 6) (v := .slice ha.ta ra.ts.length ha.tc) hA1 rfl
  have b0 := hcell (k := 0) (v := .int .i64 rb.x0) hG1 rfl
  have b1 := hcell (k := 1) (v := .int .i64 rb.z0) hG1 rfl
  have b2 := hcell (k := 2) (v := .int .i64 rb.x1) hG1 rfl
  have b3 := hcell (k := 3) (v := .int .i64 rb.z1) hG1 rfl
  have b4 := hcell (k := 4) (v := .int .i64 rb.area) hG1 rfl
  have b5 := hcell (k := 5) (v := .slice hb.ya rb.ys.length hb.yc) hG1 rfl
  have b6 := hcell (k := 6) (v := .slice hb.ta rb.ts.length hb.tc) hG1 rfl
  have HC1 := Lib.hid hC1
  have HA1 := Lib.hid hA1
  have HG1 := Lib.hid hG1
  clear hC1 hA1 hG1
  by_cases eb : rcE cf rb = 0
  case neg =>
    have ebB : (rcE cf rb != 0) = true := by simpa using eb
    generalize rcE cf rb = q at RB eb ebB
    go_wp2_with fail
    refine (RB.out _ (HSb.out _ hB1)).mono ?_
    rintro e w2 ⟨rfl, hb2⟩
    have hB2 := hB1.trans (hb2.mono hB1.size)
    clear c0 c1 c2 c3 c4 c5 c6 a0 a1 a2 a3 a4 a5 a6 b0 b1 b2 b3 b4 b5 b6
    go_wp2_with fail
    refine (WK.out _).mono ?_
    rintro e w3 ⟨rfl, hb3⟩
    go_wp2
    go_ret
    exact ⟨rfl, hB2.trans (hb3.mono hB2.size)⟩
  rw [eb] at RB
  have BT := Lib.hid (fun W hs ht => betw_any cf ha ra hb rb W hs ht)
  unfold BtwPost at BT
  obtain ⟨LD, hL⟩ : ∃ LD, LD = betw cf ra rb := ⟨_, rfl⟩
  rw [← hL] at BT
  have HL := Lib.hid hL
  clear hL
  go_wp2_with fail
  refine (RB.out _ (HSb.out _ hB1)).mono ?_
  rintro e w2 ⟨rfl, hb2⟩
  have hC1 := HC1.out
  have hA1 := HA1.out
  have hG1 := HG1.out
  have hC2 := hkeep hb2 hC1
  have hA2 := hkeep hb2 hA1
  have hG2 := hkeep hb2 hG1
  have hB2 := hB1.trans (hb2.mono hB1.size)
  clear c0 c1 c2 c3 c4 c5 c6 a0 a1 a2 a3 a4 a5 a6 b0 b1 b2 b3 b4 b5 b6
  have c0 := hcell (k := 0) (v := .int .i64 cf.clear) hC2 rfl
  have c1 := hcell (k := 1) (v := .int .i64 cf.climb) hC2 rfl
  have c2 := hcell (k := 2) (v := .int .i64 cf.height) hC2 rfl
  have c3 := hcell (k := 3) (v := .int .i64 cf.rise) hC2 rfl
  have c4 := hcell (k := 4) (v := .int .i64 cf.run) hC2 rfl
  have c5 := hcell (k := 5) (v := .int .i64 cf.w) hC2 rfl
  have c6 := hcell (k := 6) (v := .int .i64 cf.d) hC2 rfl
  have a0 := hcell (k := 0) (v := .int .i64 ra.x0) hA2 rfl
  have a1 := hcell (k := 1) (v := .int .i64 ra.z0) hA2 rfl
  have a2 := hcell (k := 2) (v := .int .i64 ra.x1) hA2 rfl
  have a3 := hcell (k := 3) (v := .int .i64 ra.z1) hA2 rfl
  have a4 := hcell (k := 4) (v := .int .i64 ra.area) hA2 rfl
  have a5 := hcell (k := 5) (v := .slice ha.ya ra.ys.length ha.yc) hA2 rfl
  have a6 := hcell (k := 6) (v := .slice ha.ta ra.ts.length ha.tc) hA2 rfl
  have b0 := hcell (k := 0) (v := .int .i64 rb.x0) hG2 rfl
  have b1 := hcell (k := 1) (v := .int .i64 rb.z0) hG2 rfl
  have b2 := hcell (k := 2) (v := .int .i64 rb.x1) hG2 rfl
  have b3 := hcell (k := 3) (v := .int .i64 rb.z1) hG2 rfl
  have b4 := hcell (k := 4) (v := .int .i64 rb.area) hG2 rfl
  have b5 := hcell (k := 5) (v := .slice hb.ya rb.ys.length hb.yc) hG2 rfl
  have b6 := hcell (k := 6) (v := .slice hb.ta rb.ts.length hb.tc) hG2 rfl
  have HC2 := Lib.hid hC2
  have HA2 := Lib.hid hA2
  have HG2 := Lib.hid hG2
  clear hC2 hA2 hG2
  dsimp only [rcV, cfgV] at BT
  go_wp2_with fail
  refine (BT.out _ (HSa.out _ hB2) (HSb.out _ hB2)).mono ?_
  rintro e w3 ⟨v, rfl, hown, hb3⟩
  obtain ⟨la, lc, rfl, hsl⟩ := OwnR.reads drC_len hown
  clear hown
  have hC2 := HC2.out
  have hA2 := HA2.out
  have hG2 := HG2.out
  have hC3 := hkeep hb3 hC2
  have hA3 := hkeep hb3 hA2
  have hG3 := hkeep hb3 hG2
  have hB3 := hB2.trans (hb3.mono hB2.size)
  clear c0 c1 c2 c3 c4 c5 c6 a0 a1 a2 a3 a4 a5 a6 b0 b1 b2 b3 b4 b5 b6
  have c0 := hcell (k := 0) (v := .int .i64 cf.clear) hC3 rfl
  have c1 := hcell (k := 1) (v := .int .i64 cf.climb) hC3 rfl
  have c2 := hcell (k := 2) (v := .int .i64 cf.height) hC3 rfl
  have c3 := hcell (k := 3) (v := .int .i64 cf.rise) hC3 rfl
  have c4 := hcell (k := 4) (v := .int .i64 cf.run) hC3 rfl
  have c5 := hcell (k := 5) (v := .int .i64 cf.w) hC3 rfl
  have c6 := hcell (k := 6) (v := .int .i64 cf.d) hC3 rfl
  have a0 := hcell (k := 0) (v := .int .i64 ra.x0) hA3 rfl
  have a1 := hcell (k := 1) (v := .int .i64 ra.z0) hA3 rfl
  have a2 := hcell (k := 2) (v := .int .i64 ra.x1) hA3 rfl
  have a3 := hcell (k := 3) (v := .int .i64 ra.z1) hA3 rfl
  have a4 := hcell (k := 4) (v := .int .i64 ra.area) hA3 rfl
  have a5 := hcell (k := 5) (v := .slice ha.ya ra.ys.length ha.yc) hA3 rfl
  have a6 := hcell (k := 6) (v := .slice ha.ta ra.ts.length ha.tc) hA3 rfl
  have b0 := hcell (k := 0) (v := .int .i64 rb.x0) hG3 rfl
  have b1 := hcell (k := 1) (v := .int .i64 rb.z0) hG3 rfl
  have b2 := hcell (k := 2) (v := .int .i64 rb.x1) hG3 rfl
  have b3 := hcell (k := 3) (v := .int .i64 rb.z1) hG3 rfl
  have b4 := hcell (k := 4) (v := .int .i64 rb.area) hG3 rfl
  have b5 := hcell (k := 5) (v := .slice hb.ya rb.ys.length hb.yc) hG3 rfl
  have b6 := hcell (k := 6) (v := .slice hb.ta rb.ts.length hb.tc) hG3 rfl
  have HC3 := Lib.hid hC3
  have HA3 := Lib.hid hA3
  have HG3 := Lib.hid hG3
  clear hC3 hA3 hG3
  have HSL := Lib.hid hsl
  clear hsl
  go_upto_region 4 with fail
  go_cut [54] from 29 to 53 (fun s wx => s = .bool (overR ra rb) ∧ wx = w3)
  case first =>
    clear BT HSL
    by_cases h1 : ra.x0 ≤ rb.x1
    case neg =>
      have hov : overR ra rb = false := by unfold overR; simp [h1]
      go_wp2
      go_meet
      exact ⟨by rw [hov], rfl⟩
    by_cases h2 : rb.x0 ≤ ra.x1
    case neg =>
      have hov : overR ra rb = false := by unfold overR; simp [h2]
      go_wp2
      go_meet
      exact ⟨by rw [hov], rfl⟩
    by_cases h3 : ra.z0 ≤ rb.z1
    case neg =>
      have hov : overR ra rb = false := by unfold overR; simp [h3]
      go_wp2
      go_meet
      exact ⟨by rw [hov], rfl⟩
    by_cases h4 : rb.z0 ≤ ra.z1
    case neg =>
      have hov : overR ra rb = false := by unfold overR; simp [h4]
      go_wp2
      go_meet
      exact ⟨by rw [hov], rfl⟩
    have hov : overR ra rb = true := by unfold overR; simp [h1, h2, h3, h4]
    go_wp2
    go_meet
    exact ⟨by rw [hov], rfl⟩
  case rest =>
    obtain ⟨rfl, rfl⟩ := hcut
    clear c0 c1 c2 c3 c4 c5 c6 a0 a1 a2 a3 a4 a5 a6 b0 b1 b2 b3 b4 b5 b6
    cases hov : overR ra rb with
    | true =>
      obtain rfl : LD = [] := by rw [HL.out]; exact betw_over hov
      (try simp only [List.length_nil])
      go_wp2_with fail
      refine (WK.out _).mono ?_
      rintro e w4 ⟨rfl, hb4⟩
      go_wp2
      go_ret
      exact ⟨rfl, hB3.trans (hb4.mono hB3.size)⟩
    | false =>
      have hmx := tmod21 ex
      have hmz := tmod21 ez
      go_upto_region 8 with fail
      generalize ex.tmod 21 = dx at hmx ⊢
      generalize ez.tmod 21 = dz at hmz ⊢
      have MA := Lib.hid (fun W => moved_any ha ra dx dz W hmx hmz (rcOk_bd ea))
      have MB := Lib.hid (fun W => moved_any hb rb dx dz W hmx hmz (rcOk_bd eb))
      have HMV : Hid (rcE cf (mvR ra dx dz) = 0 → rcE cf (mvR rb dx dz) = 0 → betw cf (mvR ra dx dz) (mvR rb dx dz) = LD.map (mvD · dx dz)) := fun h1 h2 => by rw [HL.out]; exact betw_mv ea eb h1 h2
      have HQa : Hid (∀ W, RcSl W ha ra → RcSl W ha (mvR ra dx dz)) := fun W h => h.mv dx dz
      have HQb : Hid (∀ W, RcSl W hb rb → RcSl W hb (mvR rb dx dz)) := fun W h => h.mv dx dz
      generalize mvR ra dx dz = qa at MA HMV HQa
      generalize mvR rb dx dz = qb at MB HMV HQb
      have BM : Hid (∀ W, RcSl W ha ra → RcSl W hb rb → Calls Try.prog 10 #[cfgV cf, rcV ha qa, rcV hb qb] W (BtwPost cf qa qb W)) := fun W h1 h2 => betw_any cf ha qa hb qb W (HQa.out W h1) (HQb.out W h2)
      unfold BtwPost at BM
      dsimp only [cfgV, rcV] at BM MA MB
      refine wp_region_inv (SwInv w.heap.size cf ha ra qa hb rb qb dx dz wc.heap.size wc (fun s0 s1 s2 s3 s4 s5 s6 s7 s8 s9 s10 => #[Value.agg #[Value.int IntKind.i64 cf.clear, Value.int IntKind.i64 cf.climb, Value.int IntKind.i64 cf.height, Value.int IntKind.i64 cf.rise, Value.int IntKind.i64 cf.run, Value.int IntKind.i64 cf.w, Value.int IntKind.i64 cf.d], Value.agg #[Value.int IntKind.i64 ra.x0, Value.int IntKind.i64 ra.z0, Value.int IntKind.i64 ra.x1, Value.int IntKind.i64 ra.z1, Value.int IntKind.i64 ra.area, Value.slice ha.ya ra.ys.length ha.yc, Value.slice ha.ta ra.ts.length ha.tc], Value.agg #[Value.int IntKind.i64 rb.x0, Value.int IntKind.i64 rb.z0, Value.int IntKind.i64 rb.x1, Value.int IntKind.i64 rb.z1, Value.int IntKind.i64 rb.area, Value.slice hb.ya rb.ys.length hb.yc, Value.slice hb.ta rb.ts.length hb.tc], Value.int IntKind.i64 dx, Value.int IntKind.i64 dz, Value.pointer (some ⟨w.heap.size, 0, none⟩), Value.pointer (some ⟨w.heap.size + 1, 0, none⟩), Value.pointer (some ⟨w.heap.size + 1 + 1, 0, none⟩), undef, undef, Value.bool false, Value.slice la LD.length lc, s10, undef, Value.agg #[Value.int IntKind.i64 cf.clear, Value.int IntKind.i64 cf.climb, Value.int IntKind.i64 cf.height, Value.int IntKind.i64 cf.rise, Value.int IntKind.i64 cf.run, Value.int IntKind.i64 cf.w, Value.int IntKind.i64 cf.d], Value.agg #[Value.int IntKind.i64 ra.x0, Value.int IntKind.i64 ra.z0, Value.int IntKind.i64 ra.x1, Value.int IntKind.i64 ra.z1, Value.int IntKind.i64 ra.area, Value.slice ha.ya ra.ys.length ha.yc, Value.slice ha.ta ra.ts.length ha.tc], Value.int IntKind.i64 0, Value.bool false, Value.bool false, Value.agg #[Value.int IntKind.i64 cf.clear, Value.int IntKind.i64 cf.climb, Value.int IntKind.i64 cf.height, Value.int IntKind.i64 cf.rise, Value.int IntKind.i64 cf.run, Value.int IntKind.i64 cf.w, Value.int IntKind.i64 cf.d], Value.agg #[Value.int IntKind.i64 rb.x0, Value.int IntKind.i64 rb.z0, Value.int IntKind.i64 rb.x1, Value.int IntKind.i64 rb.z1, Value.int IntKind.i64 rb.area, Value.slice hb.ya rb.ys.length hb.yc, Value.slice hb.ta rb.ts.length hb.tc], Value.int IntKind.i64 0, Value.bool false, Value.bool false, undef, Value.agg #[Value.int IntKind.i64 cf.clear, Value.int IntKind.i64 cf.climb, Value.int IntKind.i64 cf.height, Value.int IntKind.i64 cf.rise, Value.int IntKind.i64 cf.run, Value.int IntKind.i64 cf.w, Value.int IntKind.i64 cf.d], Value.agg #[Value.int IntKind.i64 ra.x0, Value.int IntKind.i64 ra.z0, Value.int IntKind.i64 ra.x1, Value.int IntKind.i64 ra.z1, Value.int IntKind.i64 ra.area, Value.slice ha.ya ra.ys.length ha.yc, Value.slice ha.ta ra.ts.length ha.tc], Value.agg #[Value.int IntKind.i64 rb.x0, Value.int IntKind.i64 rb.z0, Value.int IntKind.i64 rb.x1, Value.int IntKind.i64 rb.z1, Value.int IntKind.i64 rb.area, Value.slice hb.ya rb.ys.length hb.yc, Value.slice hb.ta rb.ts.length hb.tc], Value.slice la LD.length lc, u29, u30, u31, u32, u33, u34, u35, u36, u37, u38, u39, u40, u41, u42, u43, u44, u45, u46, u47, u48, u49, u50, u51, u52, u53, Value.bool false, undef, undef, undef, undef, undef, undef, Value.int IntKind.i64 ex, Value.int IntKind.i64 dx, Value.int IntKind.i64 ez, Value.int IntKind.i64 dz, s0, s1, s2, s3, s4, s5, s6, s7, s8, s9, undef, undef, undef, undef, undef, undef, undef, undef, undef, undef, undef, undef, undef, undef, undef, undef, undef, undef, undef, undef, undef, undef, undef, undef, undef, undef, undef, undef, undef, undef, undef, undef, undef, undef, undef, undef, undef, undef, undef, undef, undef, undef, undef, undef, undef, undef, undef, undef, undef, undef, undef, undef, undef, undef, undef, undef, undef, undef, undef, undef, undef, undef, undef, undef, undef, undef, undef, undef, undef, undef, undef, undef, undef, undef, undef, undef, undef, undef, undef, undef, undef, undef, undef, undef, undef]) []) (by kernel_rfl) (by kernel_rfl) ?_ ?_ ?_
      · unfold SwInv
        refine ⟨_, _, _, _, _, _, _, _, _, _, _, rfl, (Below.refl _ _).drew, HC3.out, HA3.out, HG3.out, (fun h => by cases (show false = true from h)), (fun h => by cases (show false = true from h)), (fun h => by cases (show false = true from h)), (fun h => by cases (show false = true from h)), (fun h => by cases (show false = true from h)), (fun h => by cases (show false = true from h)), (fun h => by cases (show false = true from h)), (fun h => by cases (show false = true from h)), (fun h => by cases (show false = true from h)), (fun h => by cases (show false = true from h)), (fun h => by cases (show false = true from h))⟩
      · intro L a wi i hs hI hi
        have hsN : L.size = 11 := hs
        have hn := ready_elim hi
        have hlt : i < 11 := by
            obtain ⟨o, ho, _⟩ := hn.2
            exact (Array.getElem?_eq_some_iff.1 ho).1
        have hi' := ready_not hi false (by rw [hs]; exact hlt)
        clear hn
        unfold SwInv at hI
        obtain ⟨s0, s1, s2, s3, s4, s5, s6, s7, s8, s9, s10, rfl, hB, hF_C, hF_A, hF_G, h0, h1, h2, h3, h4, h5, h6, h7, h8, h9, h10⟩ := hI
        rcases (by omega : i = 0 ∨ i = 1 ∨ i = 2 ∨ i = 3 ∨ i = 4 ∨ i = 5 ∨ i = 6 ∨ i = 7 ∨ i = 8 ∨ i = 9 ∨ i = 10) with rfl | rfl | rfl | rfl | rfl | rfl | rfl | rfl | rfl | rfl | rfl
        · skip
          have c0 := hcell (k := 0) (v := .int .i64 cf.clear) hF_C rfl
          have c1 := hcell (k := 1) (v := .int .i64 cf.climb) hF_C rfl
          have c2 := hcell (k := 2) (v := .int .i64 cf.height) hF_C rfl
          have c3 := hcell (k := 3) (v := .int .i64 cf.rise) hF_C rfl
          have c4 := hcell (k := 4) (v := .int .i64 cf.run) hF_C rfl
          have c5 := hcell (k := 5) (v := .int .i64 cf.w) hF_C rfl
          have c6 := hcell (k := 6) (v := .int .i64 cf.d) hF_C rfl
          refine wpOp_of rfl rfl ?_
          go_simp
          unfold SwInv
          exact ⟨_, _, _, _, _, _, _, _, _, _, _, rfl, (hB), (hF_C), (hF_A), (hF_G), (fun _ => rfl), (fun h => h1 (by rwa [getD_set_ne (by decide)] at h)), (fun h => h2 (by rwa [getD_set_ne (by decide)] at h)), (fun h => h3 (by rwa [getD_set_ne (by decide)] at h)), (fun h => h4 (by rwa [getD_set_ne (by decide)] at h)), (fun h => h5 (by rwa [getD_set_ne (by decide)] at h)), (fun h => h6 (by rwa [getD_set_ne (by decide)] at h)), (fun h => h7 (by rwa [getD_set_ne (by decide)] at h)), (fun h => h8 (by rwa [getD_set_ne (by decide)] at h)), (fun h => h9 (by rwa [getD_set_ne (by decide)] at h)), (fun h => h10 (by rwa [getD_set_ne (by decide)] at h))⟩
        · skip
          have c0 := hcell (k := 0) (v := .int .i64 ra.x0) hF_A rfl
          have c1 := hcell (k := 1) (v := .int .i64 ra.z0) hF_A rfl
          have c2 := hcell (k := 2) (v := .int .i64 ra.x1) hF_A rfl
          have c3 := hcell (k := 3) (v := .int .i64 ra.z1) hF_A rfl
          have c4 := hcell (k := 4) (v := .int .i64 ra.area) hF_A rfl
          have c5 := hcell (k := 5) (v := .slice ha.ya ra.ys.length ha.yc) hF_A rfl
          have c6 := hcell (k := 6) (v := .slice ha.ta ra.ts.length ha.tc) hF_A rfl
          refine wpOp_of rfl rfl ?_
          go_simp
          unfold SwInv
          exact ⟨_, _, _, _, _, _, _, _, _, _, _, rfl, (hB), (hF_C), (hF_A), (hF_G), (fun h => h0 (by rwa [getD_set_ne (by decide)] at h)), (fun _ => rfl), (fun h => h2 (by rwa [getD_set_ne (by decide)] at h)), (fun h => h3 (by rwa [getD_set_ne (by decide)] at h)), (fun h => h4 (by rwa [getD_set_ne (by decide)] at h)), (fun h => h5 (by rwa [getD_set_ne (by decide)] at h)), (fun h => h6 (by rwa [getD_set_ne (by decide)] at h)), (fun h => h7 (by rwa [getD_set_ne (by decide)] at h)), (fun h => h8 (by rwa [getD_set_ne (by decide)] at h)), (fun h => h9 (by rwa [getD_set_ne (by decide)] at h)), (fun h => h10 (by rwa [getD_set_ne (by decide)] at h))⟩
        · skip
          refine wpOp_of rfl rfl ?_
          go_simp
          unfold SwInv
          exact ⟨_, _, _, _, _, _, _, _, _, _, _, rfl, (hB), (hF_C), (hF_A), (hF_G), (fun h => h0 (by rwa [getD_set_ne (by decide)] at h)), (fun h => h1 (by rwa [getD_set_ne (by decide)] at h)), (fun _ => rfl), (fun h => h3 (by rwa [getD_set_ne (by decide)] at h)), (fun h => h4 (by rwa [getD_set_ne (by decide)] at h)), (fun h => h5 (by rwa [getD_set_ne (by decide)] at h)), (fun h => h6 (by rwa [getD_set_ne (by decide)] at h)), (fun h => h7 (by rwa [getD_set_ne (by decide)] at h)), (fun h => h8 (by rwa [getD_set_ne (by decide)] at h)), (fun h => h9 (by rwa [getD_set_ne (by decide)] at h)), (fun h => h10 (by rwa [getD_set_ne (by decide)] at h))⟩
        · skip
          refine wpOp_of rfl rfl ?_
          go_simp
          unfold SwInv
          exact ⟨_, _, _, _, _, _, _, _, _, _, _, rfl, (hB), (hF_C), (hF_A), (hF_G), (fun h => h0 (by rwa [getD_set_ne (by decide)] at h)), (fun h => h1 (by rwa [getD_set_ne (by decide)] at h)), (fun h => h2 (by rwa [getD_set_ne (by decide)] at h)), (fun _ => rfl), (fun h => h4 (by rwa [getD_set_ne (by decide)] at h)), (fun h => h5 (by rwa [getD_set_ne (by decide)] at h)), (fun h => h6 (by rwa [getD_set_ne (by decide)] at h)), (fun h => h7 (by rwa [getD_set_ne (by decide)] at h)), (fun h => h8 (by rwa [getD_set_ne (by decide)] at h)), (fun h => h9 (by rwa [getD_set_ne (by decide)] at h)), (fun h => h10 (by rwa [getD_set_ne (by decide)] at h))⟩
        · skip
          have e1 := h1 (ready_dep hi (by kernel_rfl))
          subst e1
          have e2 := h2 (ready_dep hi (by kernel_rfl))
          subst e2
          have e3 := h3 (ready_dep hi (by kernel_rfl))
          subst e3
          refine wpOp_of rfl rfl ?_
          go_simp
          go_at_call 11
          refine (MA.out wi).mono ?_
          rintro e wz ⟨rfl, hbz⟩
          (try go_simp)
          unfold SwInv
          exact ⟨_, _, _, _, _, _, _, _, _, _, _, rfl, (hB.trans (hbz.mono (Nat.le_trans (Nat.le_refl _) hB.size))), (hkeep hbz hF_C), (hkeep hbz hF_A), (hkeep hbz hF_G), (fun h => h0 (by rwa [getD_set_ne (by decide)] at h)), (fun h => h1 (by rwa [getD_set_ne (by decide)] at h)), (fun h => h2 (by rwa [getD_set_ne (by decide)] at h)), (fun h => h3 (by rwa [getD_set_ne (by decide)] at h)), (fun _ => rfl), (fun h => h5 (by rwa [getD_set_ne (by decide)] at h)), (fun h => h6 (by rwa [getD_set_ne (by decide)] at h)), (fun h => h7 (by rwa [getD_set_ne (by decide)] at h)), (fun h => h8 (by rwa [getD_set_ne (by decide)] at h)), (fun h => DrAt.below (h9 (by rwa [getD_set_ne (by decide)] at h)) (hbz)), (fun h => DrAt.below (h10 (by rwa [getD_set_ne (by decide)] at h)) (hbz))⟩
        · skip
          have c0 := hcell (k := 0) (v := .int .i64 rb.x0) hF_G rfl
          have c1 := hcell (k := 1) (v := .int .i64 rb.z0) hF_G rfl
          have c2 := hcell (k := 2) (v := .int .i64 rb.x1) hF_G rfl
          have c3 := hcell (k := 3) (v := .int .i64 rb.z1) hF_G rfl
          have c4 := hcell (k := 4) (v := .int .i64 rb.area) hF_G rfl
          have c5 := hcell (k := 5) (v := .slice hb.ya rb.ys.length hb.yc) hF_G rfl
          have c6 := hcell (k := 6) (v := .slice hb.ta rb.ts.length hb.tc) hF_G rfl
          refine wpOp_of rfl rfl ?_
          go_simp
          unfold SwInv
          exact ⟨_, _, _, _, _, _, _, _, _, _, _, rfl, (hB), (hF_C), (hF_A), (hF_G), (fun h => h0 (by rwa [getD_set_ne (by decide)] at h)), (fun h => h1 (by rwa [getD_set_ne (by decide)] at h)), (fun h => h2 (by rwa [getD_set_ne (by decide)] at h)), (fun h => h3 (by rwa [getD_set_ne (by decide)] at h)), (fun h => h4 (by rwa [getD_set_ne (by decide)] at h)), (fun _ => rfl), (fun h => h6 (by rwa [getD_set_ne (by decide)] at h)), (fun h => h7 (by rwa [getD_set_ne (by decide)] at h)), (fun h => h8 (by rwa [getD_set_ne (by decide)] at h)), (fun h => h9 (by rwa [getD_set_ne (by decide)] at h)), (fun h => h10 (by rwa [getD_set_ne (by decide)] at h))⟩
        · skip
          refine wpOp_of rfl rfl ?_
          go_simp
          unfold SwInv
          exact ⟨_, _, _, _, _, _, _, _, _, _, _, rfl, (hB), (hF_C), (hF_A), (hF_G), (fun h => h0 (by rwa [getD_set_ne (by decide)] at h)), (fun h => h1 (by rwa [getD_set_ne (by decide)] at h)), (fun h => h2 (by rwa [getD_set_ne (by decide)] at h)), (fun h => h3 (by rwa [getD_set_ne (by decide)] at h)), (fun h => h4 (by rwa [getD_set_ne (by decide)] at h)), (fun h => h5 (by rwa [getD_set_ne (by decide)] at h)), (fun _ => rfl), (fun h => h7 (by rwa [getD_set_ne (by decide)] at h)), (fun h => h8 (by rwa [getD_set_ne (by decide)] at h)), (fun h => h9 (by rwa [getD_set_ne (by decide)] at h)), (fun h => h10 (by rwa [getD_set_ne (by decide)] at h))⟩
        · skip
          refine wpOp_of rfl rfl ?_
          go_simp
          unfold SwInv
          exact ⟨_, _, _, _, _, _, _, _, _, _, _, rfl, (hB), (hF_C), (hF_A), (hF_G), (fun h => h0 (by rwa [getD_set_ne (by decide)] at h)), (fun h => h1 (by rwa [getD_set_ne (by decide)] at h)), (fun h => h2 (by rwa [getD_set_ne (by decide)] at h)), (fun h => h3 (by rwa [getD_set_ne (by decide)] at h)), (fun h => h4 (by rwa [getD_set_ne (by decide)] at h)), (fun h => h5 (by rwa [getD_set_ne (by decide)] at h)), (fun h => h6 (by rwa [getD_set_ne (by decide)] at h)), (fun _ => rfl), (fun h => h8 (by rwa [getD_set_ne (by decide)] at h)), (fun h => h9 (by rwa [getD_set_ne (by decide)] at h)), (fun h => h10 (by rwa [getD_set_ne (by decide)] at h))⟩
        · skip
          have e5 := h5 (ready_dep hi (by kernel_rfl))
          subst e5
          have e6 := h6 (ready_dep hi (by kernel_rfl))
          subst e6
          have e7 := h7 (ready_dep hi (by kernel_rfl))
          subst e7
          refine wpOp_of rfl rfl ?_
          go_simp
          go_at_call 11
          refine (MB.out wi).mono ?_
          rintro e wz ⟨rfl, hbz⟩
          (try go_simp)
          unfold SwInv
          exact ⟨_, _, _, _, _, _, _, _, _, _, _, rfl, (hB.trans (hbz.mono (Nat.le_trans (Nat.le_refl _) hB.size))), (hkeep hbz hF_C), (hkeep hbz hF_A), (hkeep hbz hF_G), (fun h => h0 (by rwa [getD_set_ne (by decide)] at h)), (fun h => h1 (by rwa [getD_set_ne (by decide)] at h)), (fun h => h2 (by rwa [getD_set_ne (by decide)] at h)), (fun h => h3 (by rwa [getD_set_ne (by decide)] at h)), (fun h => h4 (by rwa [getD_set_ne (by decide)] at h)), (fun h => h5 (by rwa [getD_set_ne (by decide)] at h)), (fun h => h6 (by rwa [getD_set_ne (by decide)] at h)), (fun h => h7 (by rwa [getD_set_ne (by decide)] at h)), (fun _ => rfl), (fun h => DrAt.below (h9 (by rwa [getD_set_ne (by decide)] at h)) (hbz)), (fun h => DrAt.below (h10 (by rwa [getD_set_ne (by decide)] at h)) (hbz))⟩
        · skip
          have e0 := h0 (ready_dep hi (by kernel_rfl))
          subst e0
          have e4 := h4 (ready_dep hi (by kernel_rfl))
          subst e4
          have e8 := h8 (ready_dep hi (by kernel_rfl))
          subst e8
          refine wpOp_of rfl rfl ?_
          go_simp
          go_at_call 10
          refine (BM.out wi (HSa.out _ (hB3.trans (hB.mono hB3.size))) (HSb.out _ (hB3.trans (hB.mono hB3.size)))).mono ?_
          rintro e wz ⟨v, rfl, hown, hbz⟩
          (try go_simp)
          unfold SwInv
          exact ⟨_, _, _, _, _, _, _, _, _, _, _, rfl, (hB.trans (hbz.mono (Nat.le_trans (Nat.le_refl _) hB.size))), (hkeep hbz hF_C), (hkeep hbz hF_A), (hkeep hbz hF_G), (fun h => h0 (by rwa [getD_set_ne (by decide)] at h)), (fun h => h1 (by rwa [getD_set_ne (by decide)] at h)), (fun h => h2 (by rwa [getD_set_ne (by decide)] at h)), (fun h => h3 (by rwa [getD_set_ne (by decide)] at h)), (fun h => h4 (by rwa [getD_set_ne (by decide)] at h)), (fun h => h5 (by rwa [getD_set_ne (by decide)] at h)), (fun h => h6 (by rwa [getD_set_ne (by decide)] at h)), (fun h => h7 (by rwa [getD_set_ne (by decide)] at h)), (fun h => h8 (by rwa [getD_set_ne (by decide)] at h)), (fun _ => DrAt.mk hown hB.size), (fun h => DrAt.below (h10 (by rwa [getD_set_ne (by decide)] at h)) (hbz))⟩
        · skip
          refine wpOp_of rfl rfl ?_
          go_simp
          unfold SwInv
          exact ⟨_, _, _, _, _, _, _, _, _, _, _, rfl, (hB), (hF_C), (hF_A), (hF_G), (fun h => h0 (by rwa [getD_set_ne (by decide)] at h)), (fun h => h1 (by rwa [getD_set_ne (by decide)] at h)), (fun h => h2 (by rwa [getD_set_ne (by decide)] at h)), (fun h => h3 (by rwa [getD_set_ne (by decide)] at h)), (fun h => h4 (by rwa [getD_set_ne (by decide)] at h)), (fun h => h5 (by rwa [getD_set_ne (by decide)] at h)), (fun h => h6 (by rwa [getD_set_ne (by decide)] at h)), (fun h => h7 (by rwa [getD_set_ne (by decide)] at h)), (fun h => h8 (by rwa [getD_set_ne (by decide)] at h)), (fun h => h9 (by rwa [getD_set_ne (by decide)] at h)), (fun _ => h9 (ready_dep hi (by kernel_rfl)))⟩
      · intro L a wi hI hall
        unfold SwInv at hI
        obtain ⟨s0, s1, s2, s3, s4, s5, s6, s7, s8, s9, s10, rfl, hB, hF_C, hF_A, hF_G, h0, h1, h2, h3, h4, h5, h6, h7, h8, h9, h10⟩ := hI
        have e0 := h0 (hall 0 (by decide))
        subst e0
        have e1 := h1 (hall 1 (by decide))
        subst e1
        have e2 := h2 (hall 2 (by decide))
        subst e2
        have e3 := h3 (hall 3 (by decide))
        subst e3
        have e4 := h4 (hall 4 (by decide))
        subst e4
        have e5 := h5 (hall 5 (by decide))
        subst e5
        have e6 := h6 (hall 6 (by decide))
        subst e6
        have e7 := h7 (hall 7 (by decide))
        subst e7
        have e8 := h8 (hall 8 (by decide))
        subst e8
        have g9 := h9 (hall 9 (by decide))
        have g10 := h10 (hall 10 (by decide))
        clear hall h9 h10
        obtain ⟨ma, mc, rfl, hom⟩ := g10
        clear g9
        have hB4 := hB3.trans (hB.mono hB3.size)
        have hsl4 := HSL.out.below hB (Nat.le_refl _)
        have hbase := hB3.size
        have hC4 := hF_C
        have hA4 := hF_A
        have hG4 := hF_G
        have HSLc := HSL
        clear hB hF_C hF_A hF_G BM BT HSL HC3 HA3 HG3
        have HM0 : Hid (¬ (rcE cf qa = 0 ∧ rcE cf qb = 0) → betw cf qa qb = []) := fun h => betw_no h
        generalize betw cf qa qb = M at hom HMV HM0 ⊢
        obtain ⟨nm, hnm⟩ : ∃ n, n = M.length := ⟨_, rfl⟩
        rw [← hnm] at hom ⊢
        have HNM := Lib.hid hnm
        clear hnm
        have BS := Lib.hid (fun W hs ht => betw_any cf hb rb ha ra W hs ht)
        unfold BtwPost at BS
        rw [betw_symm, ← HL.out] at BS
        dsimp only [cfgV, rcV] at BS
        have c0 := hcell (k := 0) (v := .int .i64 cf.clear) hC4 rfl
        have c1 := hcell (k := 1) (v := .int .i64 cf.climb) hC4 rfl
        have c2 := hcell (k := 2) (v := .int .i64 cf.height) hC4 rfl
        have c3 := hcell (k := 3) (v := .int .i64 cf.rise) hC4 rfl
        have c4 := hcell (k := 4) (v := .int .i64 cf.run) hC4 rfl
        have c5 := hcell (k := 5) (v := .int .i64 cf.w) hC4 rfl
        have c6 := hcell (k := 6) (v := .int .i64 cf.d) hC4 rfl
        have a0 := hcell (k := 0) (v := .int .i64 ra.x0) hA4 rfl
        have a1 := hcell (k := 1) (v := .int .i64 ra.z0) hA4 rfl
        have a2 := hcell (k := 2) (v := .int .i64 ra.x1) hA4 rfl
        have a3 := hcell (k := 3) (v := .int .i64 ra.z1) hA4 rfl
        have a4 := hcell (k := 4) (v := .int .i64 ra.area) hA4 rfl
        have a5 := hcell (k := 5) (v := .slice ha.ya ra.ys.length ha.yc) hA4 rfl
        have a6 := hcell (k := 6) (v := .slice ha.ta ra.ts.length ha.tc) hA4 rfl
        have b0 := hcell (k := 0) (v := .int .i64 rb.x0) hG4 rfl
        have b1 := hcell (k := 1) (v := .int .i64 rb.z0) hG4 rfl
        have b2 := hcell (k := 2) (v := .int .i64 rb.x1) hG4 rfl
        have b3 := hcell (k := 3) (v := .int .i64 rb.z1) hG4 rfl
        have b4 := hcell (k := 4) (v := .int .i64 rb.area) hG4 rfl
        have b5 := hcell (k := 5) (v := .slice hb.ya rb.ys.length hb.yc) hG4 rfl
        have b6 := hcell (k := 6) (v := .slice hb.ta rb.ts.length hb.tc) hG4 rfl
        go_wp2_with fail
        refine (BS.out _ (HSb.out _ hB4) (HSa.out _ hB4)).mono ?_
        rintro e w5 ⟨v5, rfl, hown5, hb5⟩
        obtain ⟨sa, sc, rfl, hsl5⟩ := OwnR.reads drC_len hown5
        have hslL5 := hsl4.below hb5 (Nat.le_refl _)
        have hom5 := hom.below hb5 (Nat.le_refl _)
        have hC5 := hkeep hb5 hC4
        have hA5 := hkeep hb5 hA4
        have hG5 := hkeep hb5 hG4
        have hB5 := hB4.trans (hb5.mono hB4.size)
        clear hown5 hC4 hA4 hG4 hom hsl4 BS
        clear c0 c1 c2 c3 c4 c5 c6 a0 a1 a2 a3 a4 a5 a6 b0 b1 b2 b3 b4 b5 b6
        have SM := Lib.hid (same18_any sa la LD.length sc lc LD _ hsl5 hslL5)
        clear hsl5
        go_wp2_with fail
        refine SM.out.mono ?_
        rintro e w6 ⟨rfl, hb6⟩
        have hslL6 := Lib.hid (hslL5.below hb6 (Nat.le_refl _))
        have hom6 := Lib.hid (hom5.below hb6 (Nat.le_refl _))
        have hC6 := hkeep hb6 hC5
        have hA6 := hkeep hb6 hA5
        have hG6 := hkeep hb6 hG5
        have hB6 := hB5.trans (hb6.mono hB5.size)
        clear hslL5 hom5 hC5 hA5 hG5 SM
        go_upto_region 11 with fail
        have c0 := hcell (k := 0) (v := .int .i64 cf.clear) hC6 rfl
        have c1 := hcell (k := 1) (v := .int .i64 cf.climb) hC6 rfl
        have c2 := hcell (k := 2) (v := .int .i64 cf.height) hC6 rfl
        have c3 := hcell (k := 3) (v := .int .i64 cf.rise) hC6 rfl
        have c4 := hcell (k := 4) (v := .int .i64 cf.run) hC6 rfl
        have c5 := hcell (k := 5) (v := .int .i64 cf.w) hC6 rfl
        have c6 := hcell (k := 6) (v := .int .i64 cf.d) hC6 rfl
        have a0 := hcell (k := 0) (v := .int .i64 ra.x0) hA6 rfl
        have a1 := hcell (k := 1) (v := .int .i64 ra.z0) hA6 rfl
        have a2 := hcell (k := 2) (v := .int .i64 ra.x1) hA6 rfl
        have a3 := hcell (k := 3) (v := .int .i64 ra.z1) hA6 rfl
        have a4 := hcell (k := 4) (v := .int .i64 ra.area) hA6 rfl
        have a5 := hcell (k := 5) (v := .slice ha.ya ra.ys.length ha.yc) hA6 rfl
        have a6 := hcell (k := 6) (v := .slice ha.ta ra.ts.length ha.tc) hA6 rfl
        have b0 := hcell (k := 0) (v := .int .i64 rb.x0) hG6 rfl
        have b1 := hcell (k := 1) (v := .int .i64 rb.z0) hG6 rfl
        have b2 := hcell (k := 2) (v := .int .i64 rb.x1) hG6 rfl
        have b3 := hcell (k := 3) (v := .int .i64 rb.z1) hG6 rfl
        have b4 := hcell (k := 4) (v := .int .i64 rb.area) hG6 rfl
        have b5 := hcell (k := 5) (v := .slice hb.ya rb.ys.length hb.yc) hG6 rfl
        have b6 := hcell (k := 6) (v := .slice hb.ta rb.ts.length hb.tc) hG6 rfl
        have e_c0 := fun d os => cell_regrown c0 d os
        have e_c1 := fun d os => cell_regrown c1 d os
        have e_c2 := fun d os => cell_regrown c2 d os
        have e_c3 := fun d os => cell_regrown c3 d os
        have e_c4 := fun d os => cell_regrown c4 d os
        have e_c5 := fun d os => cell_regrown c5 d os
        have e_c6 := fun d os => cell_regrown c6 d os
        have e_a0 := fun d os => cell_regrown a0 d os
        have e_a1 := fun d os => cell_regrown a1 d os
        have e_a2 := fun d os => cell_regrown a2 d os
        have e_a3 := fun d os => cell_regrown a3 d os
        have e_a4 := fun d os => cell_regrown a4 d os
        have e_a5 := fun d os => cell_regrown a5 d os
        have e_a6 := fun d os => cell_regrown a6 d os
        have e_b0 := fun d os => cell_regrown b0 d os
        have e_b1 := fun d os => cell_regrown b1 d os
        have e_b2 := fun d os => cell_regrown b2 d os
        have e_b3 := fun d os => cell_regrown b3 d os
        have e_b4 := fun d os => cell_regrown b4 d os
        have e_b5 := fun d os => cell_regrown b5 d os
        have e_b6 := fun d os => cell_regrown b6 d os
        clear hC6 hA6 hG6 c0 c1 c2 c3 c4 c5 c6 a0 a1 a2 a3 a4 a5 a6 b0 b1 b2 b3 b4 b5 b6
        have RMA : Hid (∀ d os, Calls Try.prog 8 #[cfgV cf, rcV ha qa] (grow (redrawn w6 d) os) fun e w' => e = .returned (.int .i64 (rcE cf qa)) ∧ Below (grow (redrawn w6 d) os).heap.size (grow (redrawn w6 d) os) w') := fun d os => refcheck17_any cf ha qa _ (HQa.out _ (HSa.out _ (hB6.trans ((below_regrown w6 d os).mono hB6.size))))
        have RMB : Hid (∀ d os, Calls Try.prog 8 #[cfgV cf, rcV hb qb] (grow (redrawn w6 d) os) fun e w' => e = .returned (.int .i64 (rcE cf qb)) ∧ Below (grow (redrawn w6 d) os).heap.size (grow (redrawn w6 d) os) w') := fun d os => refcheck17_any cf hb qb _ (HQb.out _ (HSb.out _ (hB6.trans ((below_regrown w6 d os).mono hB6.size))))
        dsimp only [cfgV, rcV] at RMA RMB
        clear HQa HQb HSa HSb
        by_cases em : rcE cf qa = 0
        case neg =>
          have emB : (rcE cf qa != 0) = true := by simpa using em
          generalize rcE cf qa = q at RMA em emB HM0
          refine wp_region_quiet_below (by kernel_rfl) (by kernel_rfl) ?_
          repeat (go_big_quiet_step (first | (go_at_call 11; first | with_reducible exact Calls.regrown_of (MA.out _) | with_reducible exact Calls.regrown_of (MB.out _)) | (go_at_call 8; first | with_reducible exact Calls.regrown_of (RMA.out _ _) | with_reducible exact Calls.regrown_of (RMB.out _ _))))
          refine wpQuiet_nil ?_
          rintro w7 ⟨⟨dq, osq⟩, hw7⟩
          have hb7 : Below w6.heap.size w6 w7 := by rw [hw7]; exact below_regrown w6 dq osq
          have hB7 := hB6.trans (hb7.mono hB6.size)
          clear hw7 e_c0 e_c1 e_c2 e_c3 e_c4 e_c5 e_c6 e_a0 e_a1 e_a2 e_a3 e_a4 e_a5 e_a6 e_b0 e_b1 e_b2 e_b3 e_b4 e_b5 e_b6
          obtain rfl : M = [] := HM0.out (fun h => em h.1)
          obtain rfl : nm = 0 := HNM.out
          go_wp2_with fail
          refine (WK.out _).mono ?_
          rintro e w8 ⟨rfl, hb8⟩
          go_wp2
          go_ret
          exact ⟨rfl, hB7.trans (hb8.mono hB7.size)⟩
        rw [em] at RMA
        by_cases en : rcE cf qb = 0
        case neg =>
          have enB : (rcE cf qb != 0) = true := by simpa using en
          generalize rcE cf qb = q at RMB en enB HM0
          refine wp_region_quiet_below (by kernel_rfl) (by kernel_rfl) ?_
          repeat (go_big_quiet_step (first | (go_at_call 11; first | with_reducible exact Calls.regrown_of (MA.out _) | with_reducible exact Calls.regrown_of (MB.out _)) | (go_at_call 8; first | with_reducible exact Calls.regrown_of (RMA.out _ _) | with_reducible exact Calls.regrown_of (RMB.out _ _))))
          refine wpQuiet_nil ?_
          rintro w7 ⟨⟨dq, osq⟩, hw7⟩
          have hb7 : Below w6.heap.size w6 w7 := by rw [hw7]; exact below_regrown w6 dq osq
          have hB7 := hB6.trans (hb7.mono hB6.size)
          clear hw7 e_c0 e_c1 e_c2 e_c3 e_c4 e_c5 e_c6 e_a0 e_a1 e_a2 e_a3 e_a4 e_a5 e_a6 e_b0 e_b1 e_b2 e_b3 e_b4 e_b5 e_b6
          obtain rfl : M = [] := HM0.out (fun h => en h.2)
          obtain rfl : nm = 0 := HNM.out
          go_wp2_with fail
          refine (WK.out _).mono ?_
          rintro e w8 ⟨rfl, hb8⟩
          go_wp2
          go_ret
          exact ⟨rfl, hB7.trans (hb8.mono hB7.size)⟩
        rw [en] at RMB
        refine wp_region_quiet_below (by kernel_rfl) (by kernel_rfl) ?_
        repeat (go_big_quiet_step (first | (go_at_call 11; first | with_reducible exact Calls.regrown_of (MA.out _) | with_reducible exact Calls.regrown_of (MB.out _)) | (go_at_call 8; first | with_reducible exact Calls.regrown_of (RMA.out _ _) | with_reducible exact Calls.regrown_of (RMB.out _ _))))
        refine wpQuiet_nil ?_
        rintro w7 ⟨⟨dq, osq⟩, hw7⟩
        have hb7 : Below w6.heap.size w6 w7 := by rw [hw7]; exact below_regrown w6 dq osq
        have hB7 := hB6.trans (hb7.mono hB6.size)
        clear hw7 e_c0 e_c1 e_c2 e_c3 e_c4 e_c5 e_c6 e_a0 e_a1 e_a2 e_a3 e_a4 e_a5 e_a6 e_b0 e_b1 e_b2 e_b3 e_b4 e_b5 e_b6 RMA RMB MA MB
        obtain rfl : M = LD.map (mvD · dx dz) := HMV.out em en
        have hNL : nm = LD.length := by rw [HNM.out, List.length_map]
        have hom7 := hom6.out.below hb7 (Nat.le_refl _)
        have hsl7 := hslL6.out.below hb7 (Nat.le_refl _)
        have hbase7 := hB7.size
        clear hom6 hslL6 HMV HM0 HNM hb7 hb5 hb6 hb3 hb2 hb1
        subst hNL
        have HBD : Hid (∀ d ∈ LD, drB d) := by rw [HL.out]; exact betw_bd cf ra rb
        have HMX := Lib.hid (fun k (e : Dr) (h : LD[k]? = some e) => mixD_at (x := dx) (z := dz) h)
        have HMS := Lib.hid (fun k (e : Dr) (h : LD[k]? = some e) => mixD_set (x := dx) (z := dz) h)
        have HMA := Lib.hid (mixD_all LD dx dz)
        rw [← mixD_zero] at hom7
        go_wp2
        go_loopw [13] (fun i wr => ∃ k : Nat, i = .int .i64 k ∧ k ≤ LD.length ∧ OwnR drC 6 35 wc.heap.size wr (.slice ma LD.length mc) LD.length (mixD LD dx dz k) ∧ SlR drC 6 wr la LD.length lc LD ∧ Below w.heap.size w wr) (fun i _ => LD.length - (intOf i).toNat)
        case atStart => exact ⟨0, rfl, Nat.zero_le _, hom7, hsl7, hB7⟩
        case round =>
          clear hom7 hsl7 hB7 hbase7
          obtain ⟨k, rfl, hk, hom, hsl, hBr⟩ := hrel
          by_cases hlt : k < LD.length
          · have hltI : (k : Int) < (LD.length : Int) := by omega
            obtain ⟨e, he⟩ : ∃ e, LD[k]? = some e := ⟨_, List.getElem?_eq_getElem hlt⟩
            obtain ⟨bl, ol, rfl, hbl, _⟩ := HSLc.out.at0 (by omega)
            obtain ⟨g, rfl⟩ := own_addr1 hom (by omega)
            have hd := HBD.out e (List.mem_of_getElem? he)
            have hat := HMX.out k e he
            have HSET := Lib.hid (HMS.out k e he)
            have hg1 : w.heap.size ≤ g := Nat.le_trans hbase (hom.le g rfl)
            have hg2 : bl ≠ g := by have := hom.le g rfl; omega
            have hlenM := mixD_len LD dx dz k
            have hmx1 := hsl.max
            have hmx2 := hsl.le
            obtain ⟨XS, hXS⟩ : ∃ X, X = mixD LD dx dz k := ⟨_, rfl⟩
            rw [← hXS] at hom hat HSET hlenM
            clear hXS he
            obtain ⟨ea_, eb_, ex0, ez0, ex1, ez1⟩ := e
            unfold drB at hd
            dsimp only [mvD] at hat hd HSET
            have v0 : IntKind.i64.wrap (ex0 + dx - dx) = ex0 := by rw [IntKind.wrap_i64]; omega
            have v1 : IntKind.i64.wrap (ex1 + dx - dx) = ex1 := by rw [IntKind.wrap_i64]; omega
            have v2 : IntKind.i64.wrap (ez0 + dz - dz) = ez0 := by rw [IntKind.wrap_i64]; omega
            have v3 : IntKind.i64.wrap (ez1 + dz - dz) = ez1 := by rw [IntKind.wrap_i64]; omega
            have vv0 : IntKind.i64.wrap ex0 = ex0 := by rw [IntKind.wrap_i64]; omega
            have vv1 : IntKind.i64.wrap ex1 = ex1 := by rw [IntKind.wrap_i64]; omega
            have vv2 : IntKind.i64.wrap ez0 = ez0 := by rw [IntKind.wrap_i64]; omega
            have vv3 : IntKind.i64.wrap ez1 = ez1 := by rw [IntKind.wrap_i64]; omega
            clear hd hmx hmz
            have q2 := OwnR.cellAt drC_len hom (j := 2) hat rfl
            have f2 := OwnR.frozen hom (k * 6 + 2)
            have homN := OwnR.setAt drC_len hom (j := 2) (u := .int .i64 ex0) (y := ⟨ea_, eb_, ex0, ez0 + dz, ex1 + dx, ez1 + dz⟩) hat (by decide) rfl
            have hslN := hsl.grown (grownBy_setCellI wr g (k * 6 + 2) (.int .i64 ex0)) (fun ad had e => by cases had; exact hg2 (Option.some.inj e).symm)
            have hBN := hBr.setCell (p := ⟨g, k * 6 + 2, none⟩) hg1 (.int .i64 ex0)
            go_upto_region 17 with fail
            obtain ⟨wr1, hWN⟩ : ∃ W, W = wr.setCell ⟨g, k * 6 + 2, none⟩ (.int .i64 ex0) := ⟨_, rfl⟩
            rw [← hWN] at homN hslN hBN
            rw [← hWN]
            clear hWN q2 f2 hom hsl hBr
            have hatN : (XS.set k ⟨ea_, eb_, ex0, ez0 + dz, ex1 + dx, ez1 + dz⟩)[k]? = some (⟨ea_, eb_, ex0, ez0 + dz, ex1 + dx, ez1 + dz⟩ : Dr) := List.getElem?_set_self (by omega)
            obtain ⟨XS1, hXT⟩ : ∃ X, X = XS.set k (⟨ea_, eb_, ex0, ez0 + dz, ex1 + dx, ez1 + dz⟩ : Dr) := ⟨_, rfl⟩
            rw [← hXT] at homN hatN
            have hsetN : XS1.set k (⟨ea_, eb_, ex0, ez0, ex1, ez1⟩ : Dr) = XS.set k ⟨ea_, eb_, ex0, ez0, ex1, ez1⟩ := by rw [hXT, List.set_set]
            have hlenN : XS1.length = LD.length := by rw [hXT, List.length_set]; exact hlenM
            clear hXT
            have HSET2 : Hid (XS1.set k (⟨ea_, eb_, ex0, ez0, ex1, ez1⟩ : Dr) = mixD LD dx dz (k + 1)) := hsetN.trans HSET.out
            clear hsetN HSET hat hlenM
            have HSET := HSET2
            have hom := homN
            have hsl := hslN
            have hBr := hBN
            have hat := hatN
            have hlenM := hlenN
            clear HSET2 homN hslN hBN hatN hlenN
            have q4 := OwnR.cellAt drC_len hom (j := 4) hat rfl
            have f4 := OwnR.frozen hom (k * 6 + 4)
            have homN := OwnR.setAt drC_len hom (j := 4) (u := .int .i64 ex1) (y := ⟨ea_, eb_, ex0, ez0 + dz, ex1, ez1 + dz⟩) hat (by decide) rfl
            have hslN := hsl.grown (grownBy_setCellI wr1 g (k * 6 + 4) (.int .i64 ex1)) (fun ad had e => by cases had; exact hg2 (Option.some.inj e).symm)
            have hBN := hBr.setCell (p := ⟨g, k * 6 + 4, none⟩) hg1 (.int .i64 ex1)
            go_upto_region 18 with fail
            obtain ⟨wr2, hWN⟩ : ∃ W, W = wr1.setCell ⟨g, k * 6 + 4, none⟩ (.int .i64 ex1) := ⟨_, rfl⟩
            rw [← hWN] at homN hslN hBN
            rw [← hWN]
            clear hWN q4 f4 hom hsl hBr
            have hatN : (XS1.set k ⟨ea_, eb_, ex0, ez0 + dz, ex1, ez1 + dz⟩)[k]? = some (⟨ea_, eb_, ex0, ez0 + dz, ex1, ez1 + dz⟩ : Dr) := List.getElem?_set_self (by omega)
            obtain ⟨XS2, hXT⟩ : ∃ X, X = XS1.set k (⟨ea_, eb_, ex0, ez0 + dz, ex1, ez1 + dz⟩ : Dr) := ⟨_, rfl⟩
            rw [← hXT] at homN hatN
            have hsetN : XS2.set k (⟨ea_, eb_, ex0, ez0, ex1, ez1⟩ : Dr) = XS1.set k ⟨ea_, eb_, ex0, ez0, ex1, ez1⟩ := by rw [hXT, List.set_set]
            have hlenN : XS2.length = LD.length := by rw [hXT, List.length_set]; exact hlenM
            clear hXT
            have HSET2 : Hid (XS2.set k (⟨ea_, eb_, ex0, ez0, ex1, ez1⟩ : Dr) = mixD LD dx dz (k + 1)) := hsetN.trans HSET.out
            clear hsetN HSET hat hlenM
            have HSET := HSET2
            have hom := homN
            have hsl := hslN
            have hBr := hBN
            have hat := hatN
            have hlenM := hlenN
            clear HSET2 homN hslN hBN hatN hlenN
            have q3 := OwnR.cellAt drC_len hom (j := 3) hat rfl
            have f3 := OwnR.frozen hom (k * 6 + 3)
            have homN := OwnR.setAt drC_len hom (j := 3) (u := .int .i64 ez0) (y := ⟨ea_, eb_, ex0, ez0, ex1, ez1 + dz⟩) hat (by decide) rfl
            have hslN := hsl.grown (grownBy_setCellI wr2 g (k * 6 + 3) (.int .i64 ez0)) (fun ad had e => by cases had; exact hg2 (Option.some.inj e).symm)
            have hBN := hBr.setCell (p := ⟨g, k * 6 + 3, none⟩) hg1 (.int .i64 ez0)
            go_upto_region 19 with fail
            obtain ⟨wr3, hWN⟩ : ∃ W, W = wr2.setCell ⟨g, k * 6 + 3, none⟩ (.int .i64 ez0) := ⟨_, rfl⟩
            rw [← hWN] at homN hslN hBN
            rw [← hWN]
            clear hWN q3 f3 hom hsl hBr
            have hatN : (XS2.set k ⟨ea_, eb_, ex0, ez0, ex1, ez1 + dz⟩)[k]? = some (⟨ea_, eb_, ex0, ez0, ex1, ez1 + dz⟩ : Dr) := List.getElem?_set_self (by omega)
            obtain ⟨XS3, hXT⟩ : ∃ X, X = XS2.set k (⟨ea_, eb_, ex0, ez0, ex1, ez1 + dz⟩ : Dr) := ⟨_, rfl⟩
            rw [← hXT] at homN hatN
            have hsetN : XS3.set k (⟨ea_, eb_, ex0, ez0, ex1, ez1⟩ : Dr) = XS2.set k ⟨ea_, eb_, ex0, ez0, ex1, ez1⟩ := by rw [hXT, List.set_set]
            have hlenN : XS3.length = LD.length := by rw [hXT, List.length_set]; exact hlenM
            clear hXT
            have HSET2 : Hid (XS3.set k (⟨ea_, eb_, ex0, ez0, ex1, ez1⟩ : Dr) = mixD LD dx dz (k + 1)) := hsetN.trans HSET.out
            clear hsetN HSET hat hlenM
            have HSET := HSET2
            have hom := homN
            have hsl := hslN
            have hBr := hBN
            have hat := hatN
            have hlenM := hlenN
            clear HSET2 homN hslN hBN hatN hlenN
            have q5 := OwnR.cellAt drC_len hom (j := 5) hat rfl
            have f5 := OwnR.frozen hom (k * 6 + 5)
            have homN := OwnR.setAt drC_len hom (j := 5) (u := .int .i64 ez1) (y := ⟨ea_, eb_, ex0, ez0, ex1, ez1⟩) hat (by decide) rfl
            have hslN := hsl.grown (grownBy_setCellI wr3 g (k * 6 + 5) (.int .i64 ez1)) (fun ad had e => by cases had; exact hg2 (Option.some.inj e).symm)
            have hBN := hBr.setCell (p := ⟨g, k * 6 + 5, none⟩) hg1 (.int .i64 ez1)
            go_upto_region 15 with fail
            obtain ⟨wr4, hWN⟩ : ∃ W, W = wr3.setCell ⟨g, k * 6 + 5, none⟩ (.int .i64 ez1) := ⟨_, rfl⟩
            rw [← hWN] at homN hslN hBN
            rw [← hWN]
            clear hWN q5 f5 hom hsl hBr
            rw [show (⟨ea_, eb_, ex0, ez0, ex1, ez1⟩ : Dr) = ⟨ea_, eb_, ex0, ez0, ex1, ez1⟩ from rfl, HSET.out] at homN
            go_wp2
            go_roundw
            case rel => exact ⟨k + 1, by go_num, by omega, homN, hslN, hBN⟩
            case measure => simp [intOf]; omega
          · obtain rfl : k = LD.length := by omega
            have hltI : ¬ (LD.length : Int) < (LD.length : Int) := by omega
            rw [HMA.out] at hom
            obtain ⟨ma', mc', e, hslM⟩ := OwnR.reads drC_len hom
            cases e
            have SM := Lib.hid (same18_any la ma LD.length lc mc LD _ hsl hslM)
            clear hom hsl hslM
            go_wp2_with fail
            refine SM.out.mono ?_
            rintro e w8 ⟨rfl, hb8⟩
            have hB8 := hBr.trans (hb8.mono hBr.size)
            go_wp2_with fail
            refine (WK.out _).mono ?_
            rintro e w9 ⟨rfl, hb9⟩
            go_wp2
            go_ret
            exact ⟨rfl, hB8.trans (hb9.mono hB8.size)⟩
end Go.Proofs.Ytjiklfffcnfdjaa
