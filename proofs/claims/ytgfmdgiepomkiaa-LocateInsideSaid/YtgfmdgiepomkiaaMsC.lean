/- Walk: mesh.Check returns. -/
import Derived.Test.YtgfmdgiepomkiaaMsA
import Derived.Test.YtgfmdgiepomkiaaMsQ
import Derived.Test.YtgfmdgiepomkiaaLm
import Derived.Test.YtgfmdgiepomkiaaDe0
namespace Go.Proofs.Ytgfmdgiepomkiaa
open Go.RowKit Go.Sort
attribute [local go_sem] Instr.index

theorem cas23 {P : (i : Nat) → i < 23 → Prop} (h0 : P 0 (by decide)) (h1 : P 1 (by decide)) (h2 : P 2 (by decide)) (h3 : P 3 (by decide)) (h4 : P 4 (by decide)) (h5 : P 5 (by decide)) (h6 : P 6 (by decide)) (h7 : P 7 (by decide)) (h8 : P 8 (by decide)) (h9 : P 9 (by decide)) (h10 : P 10 (by decide)) (h11 : P 11 (by decide)) (h12 : P 12 (by decide)) (h13 : P 13 (by decide)) (h14 : P 14 (by decide)) (h15 : P 15 (by decide)) (h16 : P 16 (by decide)) (h17 : P 17 (by decide)) (h18 : P 18 (by decide)) (h19 : P 19 (by decide)) (h20 : P 20 (by decide)) (h21 : P 21 (by decide)) (h22 : P 22 (by decide)) (i : Nat) (h : i < 23) : P i h := by
  by_cases e : i < 11
  · rcases (by omega : i = 0 ∨ i = 1 ∨ i = 2 ∨ i = 3 ∨ i = 4 ∨ i = 5 ∨ i = 6 ∨ i = 7 ∨ i = 8 ∨ i = 9 ∨ i = 10) with rfl | rfl | rfl | rfl | rfl | rfl | rfl | rfl | rfl | rfl | rfl <;> assumption
  · rcases (by omega : i = 11 ∨ i = 12 ∨ i = 13 ∨ i = 14 ∨ i = 15 ∨ i = 16 ∨ i = 17 ∨ i = 18 ∨ i = 19 ∨ i = 20 ∨ i = 21 ∨ i = 22) with rfl | rfl | rfl | rfl | rfl | rfl | rfl | rfl | rfl | rfl | rfl | rfl <;> assumption
theorem updB_imp {b : Nat → Bool} {i G lo hi : Nat} (h : ∀ j, lo ≤ j → j ≤ hi → b j = true → b G = true) (hG : lo ≤ i → i ≤ hi → b G = true) : ∀ j, lo ≤ j → j ≤ hi → updB b i j = true → updB b i G = true := by
  intro j h1 h2 h3
  refine updB_up ?_
  by_cases e : j = i
  · subst e
    exact hG h1 h2
  · unfold updB at h3
    rw [if_neg e] at h3
    exact h j h1 h2 h3
theorem wpOp_skipU {P : Program} {Q : Exit → Act → World → Prop} {ops : Array Oper} {K : Act → World → Prop} {w : World} {t : Array Value} {D : List Deferred} {i : Nat} (j d : Nat) (u : Bool) (hg : (ops[i]?).bind (·.guard) = some (j, u)) (hd : (ops[j]?).bind (·.dst) = some d) (ht : t[d]? = some undef)
    (h : K (Act.put ⟨t, D⟩ ((ops[i]?).bind (·.dst)) undef) w) : wpOp P ops Q i K ⟨t, D⟩ w := by
  unfold wpOp
  cases ho : ops[i]? with
  | none => rw [ho] at hg; cases hg
  | some o =>
    rw [ho] at hg h
    simp only [Option.bind_some] at hg h
    have hy : yielded ops t j = none := by unfold yielded; rw [hd]; simp only [Option.bind_some, ht]; rfl
    have hw : Region.wanted o (yielded ops t) = false := by
      unfold Region.wanted
      rw [hg]
      simp only [hy]
      rfl
    simp only [hw]
    exact h
/-- Some number is told. -/
def InPost (w : World) (e : Ending) (w' : World) : Prop := (∃ E : Int, e = .returned (.int .i64 E)) ∧ Below w.heap.size w w'
set_option maxRecDepth 100000 in
set_option maxHeartbeats 32000000 in
theorem mscheck_any (m : Msh) (w : World) (hm : MshAt w m) (hr : ∀ t ∈ m.ts, t.rn ≤ 60 ∧ t.dn ≤ 500) (hn9 : m.tn ≤ 9) :
    Calls Try.prog 45 #[mshV m] w (InPost w) := by
  have hB : Below w.heap.size w (w.alloc (.cells #[.int .i64 m.cf.clear, .int .i64 m.cf.climb, .int .i64 m.cf.height, .int .i64 m.cf.rise, .int .i64 m.cf.run, .int .i64 m.cf.w, .int .i64 m.cf.d, .slice m.ta m.tn m.tc, .slice m.ra m.rn m.rc, .slice m.da m.dn m.dc, .slice m.ha m.hn m.hc] 43 (0, 0))) := (Below.refl _ _).alloc (Nat.le_refl _) _
  have hM := World.alloc_heap_new w (.cells #[.int .i64 m.cf.clear, .int .i64 m.cf.climb, .int .i64 m.cf.height, .int .i64 m.cf.rise, .int .i64 m.cf.run, .int .i64 m.cf.w, .int .i64 m.cf.d, .slice m.ta m.tn m.tc, .slice m.ra m.rn m.rc, .slice m.da m.dn m.dc, .slice m.ha m.hn m.hc] 43 (0, 0))
  obtain ⟨W1, hW1⟩ : ∃ W, W = w.alloc (.cells #[.int .i64 m.cf.clear, .int .i64 m.cf.climb, .int .i64 m.cf.height, .int .i64 m.cf.rise, .int .i64 m.cf.run, .int .i64 m.cf.w, .int .i64 m.cf.d, .slice m.ta m.tn m.tc, .slice m.ra m.rn m.rc, .slice m.da m.dn m.dc, .slice m.ha m.hn m.hc] 43 (0, 0)) := ⟨_, rfl⟩
  obtain ⟨S0, hS0⟩ : ∃ S, S = w.heap.size := ⟨_, rfl⟩
  rw [← hW1] at hB hM
  rw [← hS0] at hM
  have HAt := Lib.hid (fun W (hb : Below w.heap.size w W) => hm.below hb)
  have CK := Lib.hid (fun W (hb : Below w.heap.size w W) => smcheck_any m.cf m.ta m.tn m.tc m.ts W (hm.below hb).t)
  have RS := Lib.hid (fun W (hb : Below w.heap.size w W) => smrects_any m.ta m.tn m.tc m.ts W (hm.below hb).t hn9 (fun t ht => (hr t ht).1))
  have AL := Lib.hid (fun W (hb : Below w.heap.size w W) => msall_any m.cf m.ta m.tn m.tc m.ts W (hm.below hb).t hr hn9)
  have SM := Lib.hid (fun a k c rs W (hb : Below w.heap.size w W) (hs : SlRc W a k c rs) => rsame_any m.ra a m.rn m.rc k c m.rs rs W (hm.below hb).r hs)
  have DE := Lib.hid (fun a k c ds W (hb : Below w.heap.size w W) (hs : SlR drC 6 W a k c ds) => deq_any m.da a m.dn m.dc k c m.ds ds W (hm.below hb).d hs)
  have ST := Lib.hid (fun h W (hb : Below w.heap.size w W) => msstands_any m h W (hm.below hb))
  unfold SmPost at CK
  unfold RsPost at RS
  unfold AlPost at AL
  unfold BoPost at SM ST
  have hHl := hm.h.len
  have hHle := hm.h.le
  have hHmax := hm.h.max
  have HHl := Lib.hid hHl
  clear hm hr hHl
  dsimp only [mshV, mshA, cfgV] at CK RS AL SM DE ST ⊢
  go_enter Try.func45, Try.ntmps45
  go_upto_region 1 with fail
  rw [← hW1, ← hS0]
  clear hW1 hS0
  have c0 := hcell (k := 0) (v := .int .i64 m.cf.clear) hM rfl
  have c1 := hcell (k := 1) (v := .int .i64 m.cf.climb) hM rfl
  have c2 := hcell (k := 2) (v := .int .i64 m.cf.height) hM rfl
  have c3 := hcell (k := 3) (v := .int .i64 m.cf.rise) hM rfl
  have c4 := hcell (k := 4) (v := .int .i64 m.cf.run) hM rfl
  have c5 := hcell (k := 5) (v := .int .i64 m.cf.w) hM rfl
  have c6 := hcell (k := 6) (v := .int .i64 m.cf.d) hM rfl
  have c7 := hcell (k := 7) (v := .slice m.ta m.tn m.tc) hM rfl
  have c8 := hcell (k := 8) (v := .slice m.ra m.rn m.rc) hM rfl
  have c9 := hcell (k := 9) (v := .slice m.da m.dn m.dc) hM rfl
  have c10 := hcell (k := 10) (v := .slice m.ha m.hn m.hc) hM rfl
  go_wp2_with fail
  refine (CK.out _ hB).mono ?_
  rintro e w1 ⟨⟨E, rfl, hE⟩, hb1⟩
  clear hE
  have hM1 := hkeep hb1 hM
  have hB1 := hB.trans (hb1.mono hB.size)
  clear hb1 hB hM CK c0 c1 c2 c3 c4 c5 c6 c7 c8 c9 c10
  by_cases hE0 : E = 0
  case neg =>
    go_wp2
    go_ret
    exact And.intro ⟨E, rfl⟩ hB1
  subst hE0
  have HM1 := Lib.hid hM1
  clear hM1
  go_upto_region 4 with fail
  refine wp_region_fun ([none, none, none, none, some 22, none, none, none, none, none, none, none, none, none, none, some 0, some 1, some 2, some 3, some 4, some 5, some 6, some 7, some 8, some 9, some 10, some 11, some 12, some 13, some 14, some 15, some 16, some 17, some 18, some 19, some 20, some 21, none, none, none, none, none, none, none, none, none, none, none, none, none, none, none, none, none, none, none, none, none, none, none, none, none, none, none, none, none, none, none, none, none]) (fun (b : Nat → Bool) (vals : Nat → Value) (W : World) => Below w1.heap.size w1 W ∧ (∀ j, 7 ≤ j → j ≤ 14 → b j = true → b 6 = true) ∧ (∀ j, 17 ≤ j → j ≤ 20 → b j = true → b 16 = true) ∧ (b 0 = true → vals 0 = .pointer (some ⟨S0, 8, none⟩)) ∧ (b 1 = true → vals 1 = .slice m.ra m.rn m.rc) ∧ (b 2 = true → vals 2 = .pointer (some ⟨S0, 7, none⟩)) ∧ (b 3 = true → vals 3 = .slice m.ta m.tn m.tc) ∧ (b 4 = true → ∃ (a : Option Addr) (k c : Nat) (rs : List (RHd × Rc)), vals 4 = .slice a k c ∧ SlRc W a k c rs) ∧ (b 5 = true → ∃ q : Bool, vals 5 = .bool q) ∧ (b 6 = true → ∃ q : Bool, vals 6 = .bool q) ∧ (b 7 = true → vals 6 = .bool true → vals 7 = .pointer (some ⟨S0, 9, none⟩)) ∧ (b 8 = true → vals 6 = .bool true → vals 8 = .slice m.da m.dn m.dc) ∧ (b 9 = true → vals 6 = .bool true → vals 9 = .pointer (some ⟨S0, 0, none⟩)) ∧ (b 10 = true → vals 6 = .bool true → vals 10 = .agg #[.int .i64 m.cf.clear, .int .i64 m.cf.climb, .int .i64 m.cf.height, .int .i64 m.cf.rise, .int .i64 m.cf.run, .int .i64 m.cf.w, .int .i64 m.cf.d]) ∧ (b 11 = true → vals 6 = .bool true → vals 11 = .pointer (some ⟨S0, 7, none⟩)) ∧ (b 12 = true → vals 6 = .bool true → vals 12 = .slice m.ta m.tn m.tc) ∧ (b 13 = true → vals 6 = .bool true → ∃ (a : Option Addr) (k c : Nat) (ds : List Dr), vals 13 = .slice a k c ∧ SlR drC 6 W a k c ds) ∧ (b 14 = true → vals 6 = .bool true → ∃ q : Bool, vals 14 = .bool q) ∧ (b 15 = true → ∃ q : Bool, vals 15 = .bool q) ∧ (b 16 = true → ∃ q : Bool, vals 16 = .bool q) ∧ (b 17 = true → vals 16 = .bool true → vals 17 = .pointer (some ⟨S0, 10, none⟩)) ∧ (b 18 = true → vals 16 = .bool true → vals 18 = .slice m.ha m.hn m.hc) ∧ (b 19 = true → vals 16 = .bool true → vals 19 = .int .i64 (m.hn : Nat)) ∧ (b 20 = true → vals 16 = .bool true → ∃ q : Bool, vals 20 = .bool q) ∧ (b 21 = true → ∃ q : Bool, vals 21 = .bool q) ∧ (b 22 = true → ∃ q : Bool, vals 22 = .bool q)) (by kernel_rfl) (by kernel_rfl) (by kernel_rfl) (by kernel_rfl) ?_ ?_ ?_
  · intro vals
    exact ⟨(Below.refl _ _).drew, (fun j _ _ h => by cases (show false = true from h)), (fun j _ _ h => by cases (show false = true from h)), (fun h => by cases (show false = true from h)), (fun h => by cases (show false = true from h)), (fun h => by cases (show false = true from h)), (fun h => by cases (show false = true from h)), (fun h => by cases (show false = true from h)), (fun h => by cases (show false = true from h)), (fun h => by cases (show false = true from h)), (fun h => by cases (show false = true from h)), (fun h => by cases (show false = true from h)), (fun h => by cases (show false = true from h)), (fun h => by cases (show false = true from h)), (fun h => by cases (show false = true from h)), (fun h => by cases (show false = true from h)), (fun h => by cases (show false = true from h)), (fun h => by cases (show false = true from h)), (fun h => by cases (show false = true from h)), (fun h => by cases (show false = true from h)), (fun h => by cases (show false = true from h)), (fun h => by cases (show false = true from h)), (fun h => by cases (show false = true from h)), (fun h => by cases (show false = true from h)), (fun h => by cases (show false = true from h)), (fun h => by cases (show false = true from h))⟩
  · intro Q' K t b vals wi hoff hon i hlt hR hb hd hK
    have hlt : i < 23 := hlt
    obtain ⟨hW, i6, i16, h0, h1, h2, h3, e4, e5, e6, h7, h8, h9, h10, h11, h12, e13, e14, e15, e16, h17, h18, h19, e20, e21, e22⟩ := hR
    revert hb hd hK
    cases i, hlt using cas23
    · intro hb hd hK
      have g1 : t[(1 : Nat)]? = some (.pointer (some ⟨S0, 0, none⟩)) := hoff 1 _ rfl rfl
      clear hoff hon hd
      refine wpOp_of rfl rfl ?_
      go_simp
      exact hK.out _ _ ⟨(hW), (updB_imp i6 (fun h1 h2 => by omega)), (updB_imp i16 (fun h1 h2 => by omega)), (fun _ => rfl), (h1), (h2), (h3), (e4), (e5), (e6), (h7), (h8), (h9), (h10), (h11), (h12), (e13), (e14), (e15), (e16), (h17), (h18), (h19), (e20), (e21), (e22)⟩
    · intro hb hd hK
      have d0 := hd 0 (by kernel_rfl)
      have g15 : t[(15 : Nat)]? = some (.pointer (some ⟨S0, 8, none⟩)) := (hon 0 15 rfl).trans (congrArg some (h0 d0))
      have c0 := hcell (k := 8) (v := .slice m.ra m.rn m.rc) (hkeep hW HM1.out) rfl
      clear hoff hon hd
      refine wpOp_of rfl rfl ?_
      go_simp
      exact hK.out _ _ ⟨(hW), (updB_imp i6 (fun h1 h2 => by omega)), (updB_imp i16 (fun h1 h2 => by omega)), (h0), (fun _ => rfl), (h2), (h3), (e4), (e5), (e6), (h7), (h8), (h9), (h10), (h11), (h12), (e13), (e14), (e15), (e16), (h17), (h18), (h19), (e20), (e21), (e22)⟩
    · intro hb hd hK
      have g1 : t[(1 : Nat)]? = some (.pointer (some ⟨S0, 0, none⟩)) := hoff 1 _ rfl rfl
      clear hoff hon hd
      refine wpOp_of rfl rfl ?_
      go_simp
      exact hK.out _ _ ⟨(hW), (updB_imp i6 (fun h1 h2 => by omega)), (updB_imp i16 (fun h1 h2 => by omega)), (h0), (h1), (fun _ => rfl), (h3), (e4), (e5), (e6), (h7), (h8), (h9), (h10), (h11), (h12), (e13), (e14), (e15), (e16), (h17), (h18), (h19), (e20), (e21), (e22)⟩
    · intro hb hd hK
      have d2 := hd 2 (by kernel_rfl)
      have g17 : t[(17 : Nat)]? = some (.pointer (some ⟨S0, 7, none⟩)) := (hon 2 17 rfl).trans (congrArg some (h2 d2))
      have c0 := hcell (k := 7) (v := .slice m.ta m.tn m.tc) (hkeep hW HM1.out) rfl
      clear hoff hon hd
      refine wpOp_of rfl rfl ?_
      go_simp
      exact hK.out _ _ ⟨(hW), (updB_imp i6 (fun h1 h2 => by omega)), (updB_imp i16 (fun h1 h2 => by omega)), (h0), (h1), (h2), (fun _ => rfl), (e4), (e5), (e6), (h7), (h8), (h9), (h10), (h11), (h12), (e13), (e14), (e15), (e16), (h17), (h18), (h19), (e20), (e21), (e22)⟩
    · intro hb hd hK
      have d3 := hd 3 (by kernel_rfl)
      have g18 : t[(18 : Nat)]? = some (.slice m.ta m.tn m.tc) := (hon 3 18 rfl).trans (congrArg some (h3 d3))
      clear hoff hon hd
      refine wpOp_of rfl rfl ?_
      go_simp
      go_at_call 83
      refine (RS.out _ (hB1.trans (hW.mono hB1.size))).mono ?_
      rintro e wz ⟨⟨a, k, c, rs, rfl, hs, hk⟩, hbz⟩
      (try go_simp)
      exact hK.out _ _ ⟨(hW.trans (hbz.mono hW.size)), (updB_imp i6 (fun h1 h2 => by omega)), (updB_imp i16 (fun h1 h2 => by omega)), (h0), (h1), (h2), (h3), (fun _ => ⟨a, k, c, rs, rfl, hs⟩), (e5), (e6), (h7), (h8), (h9), (h10), (h11), (h12), (fun h h6 => by obtain ⟨a, k, c, ds, e, hs⟩ := e13 h h6; exact ⟨a, k, c, ds, e, hs.below hbz (Nat.le_refl _)⟩), (e14), (e15), (e16), (h17), (h18), (h19), (e20), (e21), (e22)⟩
    · intro hb hd hK
      have d1 := hd 1 (by kernel_rfl)
      have g16 : t[(16 : Nat)]? = some (.slice m.ra m.rn m.rc) := (hon 1 16 rfl).trans (congrArg some (h1 d1))
      have d4 := hd 4 (by kernel_rfl)
      have p4 := e4 d4
      have g19 : t[(19 : Nat)]? = some (vals 4) := hon 4 19 rfl
      obtain ⟨ua, uk, uc, us, eu, hus⟩ := p4
      rw [eu] at g19
      clear hoff hon hd
      refine wpOp_of rfl rfl ?_
      go_simp
      go_at_call 82
      refine (SM.out ua uk uc us _ (hB1.trans (hW.mono hB1.size)) hus).mono ?_
      rintro e wz ⟨⟨q, rfl⟩, hbz⟩
      (try go_simp)
      exact hK.out _ _ ⟨(hW.trans (hbz.mono hW.size)), (updB_imp i6 (fun h1 h2 => by omega)), (updB_imp i16 (fun h1 h2 => by omega)), (h0), (h1), (h2), (h3), (fun h => by obtain ⟨a, k, c, rs, e, hs⟩ := e4 h; exact ⟨a, k, c, rs, e, hs.below hbz (Nat.le_refl _)⟩), (fun _ => ⟨_, rfl⟩), (e6), (h7), (h8), (h9), (h10), (h11), (h12), (fun h h6 => by obtain ⟨a, k, c, ds, e, hs⟩ := e13 h h6; exact ⟨a, k, c, ds, e, hs.below hbz (Nat.le_refl _)⟩), (e14), (e15), (e16), (h17), (h18), (h19), (e20), (e21), (e22)⟩
    · intro hb hd hK
      have d5 := hd 5 (by kernel_rfl)
      have p5 := e5 d5
      have g20 : t[(20 : Nat)]? = some (vals 5) := hon 5 20 rfl
      obtain ⟨q, eq5⟩ := p5
      rw [eq5] at g20
      clear hoff hon hd
      refine wpOp_of rfl rfl ?_
      go_simp
      exact hK.out _ _ ⟨(hW), (updB_imp i6 (fun h1 h2 => by omega)), (updB_imp i16 (fun h1 h2 => by omega)), (h0), (h1), (h2), (h3), (e4), (e5), (fun _ => ⟨_, rfl⟩), (fun h _ => absurd (i6 7 (by omega) (by omega) (show b 7 = true from h)) (by rw [hb]; decide)), (fun h _ => absurd (i6 8 (by omega) (by omega) (show b 8 = true from h)) (by rw [hb]; decide)), (fun h _ => absurd (i6 9 (by omega) (by omega) (show b 9 = true from h)) (by rw [hb]; decide)), (fun h _ => absurd (i6 10 (by omega) (by omega) (show b 10 = true from h)) (by rw [hb]; decide)), (fun h _ => absurd (i6 11 (by omega) (by omega) (show b 11 = true from h)) (by rw [hb]; decide)), (fun h _ => absurd (i6 12 (by omega) (by omega) (show b 12 = true from h)) (by rw [hb]; decide)), (fun h _ => absurd (i6 13 (by omega) (by omega) (show b 13 = true from h)) (by rw [hb]; decide)), (fun h _ => absurd (i6 14 (by omega) (by omega) (show b 14 = true from h)) (by rw [hb]; decide)), (e15), (e16), (h17), (h18), (h19), (e20), (e21), (e22)⟩
    · intro hb hd hK
      have dG := hd 6 (by kernel_rfl)
      obtain ⟨q, eG⟩ := e6 dG
      have gG : t[(21 : Nat)]? = some (.bool q) := (hon 6 21 rfl).trans (congrArg some eG)
      cases q with
      | false => exact wpOp_skipG 6 21 false true rfl rfl gG rfl (hK.out _ _ ⟨(hW), (updB_imp i6 (fun _ _ => dG)), (updB_imp i16 (fun h1 h2 => by omega)), (h0), (h1), (h2), (h3), (e4), (e5), (e6), (fun _ h6 => absurd (eG.symm.trans h6) (by intro h; cases h)), (h8), (h9), (h10), (h11), (h12), (e13), (e14), (e15), (e16), (h17), (h18), (h19), (e20), (e21), (e22)⟩)
      | true =>
        have g1 : t[(1 : Nat)]? = some (.pointer (some ⟨S0, 0, none⟩)) := hoff 1 _ rfl rfl
        clear hoff hon hd
        refine wpOp_wantG 6 21 true rfl rfl rfl gG ?_
        go_simp
        exact hK.out _ _ ⟨(hW), (updB_imp i6 (fun _ _ => dG)), (updB_imp i16 (fun h1 h2 => by omega)), (h0), (h1), (h2), (h3), (e4), (e5), (e6), (fun _ _ => rfl), (h8), (h9), (h10), (h11), (h12), (e13), (e14), (e15), (e16), (h17), (h18), (h19), (e20), (e21), (e22)⟩
    · intro hb hd hK
      have dG := hd 6 (by kernel_rfl)
      obtain ⟨q, eG⟩ := e6 dG
      have gG : t[(21 : Nat)]? = some (.bool q) := (hon 6 21 rfl).trans (congrArg some eG)
      cases q with
      | false => exact wpOp_skipG 6 21 false true rfl rfl gG rfl (hK.out _ _ ⟨(hW), (updB_imp i6 (fun _ _ => dG)), (updB_imp i16 (fun h1 h2 => by omega)), (h0), (h1), (h2), (h3), (e4), (e5), (e6), (h7), (fun _ h6 => absurd (eG.symm.trans h6) (by intro h; cases h)), (h9), (h10), (h11), (h12), (e13), (e14), (e15), (e16), (h17), (h18), (h19), (e20), (e21), (e22)⟩)
      | true =>
        have d7 := hd 7 (by kernel_rfl)
        have g22 : t[(22 : Nat)]? = some (.pointer (some ⟨S0, 9, none⟩)) := (hon 7 22 rfl).trans (congrArg some (h7 d7 eG))
        have c0 := hcell (k := 9) (v := .slice m.da m.dn m.dc) (hkeep hW HM1.out) rfl
        clear hoff hon hd
        refine wpOp_wantG 6 21 true rfl rfl rfl gG ?_
        go_simp
        exact hK.out _ _ ⟨(hW), (updB_imp i6 (fun _ _ => dG)), (updB_imp i16 (fun h1 h2 => by omega)), (h0), (h1), (h2), (h3), (e4), (e5), (e6), (h7), (fun _ _ => rfl), (h9), (h10), (h11), (h12), (e13), (e14), (e15), (e16), (h17), (h18), (h19), (e20), (e21), (e22)⟩
    · intro hb hd hK
      have dG := hd 6 (by kernel_rfl)
      obtain ⟨q, eG⟩ := e6 dG
      have gG : t[(21 : Nat)]? = some (.bool q) := (hon 6 21 rfl).trans (congrArg some eG)
      cases q with
      | false => exact wpOp_skipG 6 21 false true rfl rfl gG rfl (hK.out _ _ ⟨(hW), (updB_imp i6 (fun _ _ => dG)), (updB_imp i16 (fun h1 h2 => by omega)), (h0), (h1), (h2), (h3), (e4), (e5), (e6), (h7), (h8), (fun _ h6 => absurd (eG.symm.trans h6) (by intro h; cases h)), (h10), (h11), (h12), (e13), (e14), (e15), (e16), (h17), (h18), (h19), (e20), (e21), (e22)⟩)
      | true =>
        have g1 : t[(1 : Nat)]? = some (.pointer (some ⟨S0, 0, none⟩)) := hoff 1 _ rfl rfl
        clear hoff hon hd
        refine wpOp_wantG 6 21 true rfl rfl rfl gG ?_
        go_simp
        exact hK.out _ _ ⟨(hW), (updB_imp i6 (fun _ _ => dG)), (updB_imp i16 (fun h1 h2 => by omega)), (h0), (h1), (h2), (h3), (e4), (e5), (e6), (h7), (h8), (fun _ _ => rfl), (h10), (h11), (h12), (e13), (e14), (e15), (e16), (h17), (h18), (h19), (e20), (e21), (e22)⟩
    · intro hb hd hK
      have dG := hd 6 (by kernel_rfl)
      obtain ⟨q, eG⟩ := e6 dG
      have gG : t[(21 : Nat)]? = some (.bool q) := (hon 6 21 rfl).trans (congrArg some eG)
      cases q with
      | false => exact wpOp_skipG 6 21 false true rfl rfl gG rfl (hK.out _ _ ⟨(hW), (updB_imp i6 (fun _ _ => dG)), (updB_imp i16 (fun h1 h2 => by omega)), (h0), (h1), (h2), (h3), (e4), (e5), (e6), (h7), (h8), (h9), (fun _ h6 => absurd (eG.symm.trans h6) (by intro h; cases h)), (h11), (h12), (e13), (e14), (e15), (e16), (h17), (h18), (h19), (e20), (e21), (e22)⟩)
      | true =>
        have d9 := hd 9 (by kernel_rfl)
        have g24 : t[(24 : Nat)]? = some (.pointer (some ⟨S0, 0, none⟩)) := (hon 9 24 rfl).trans (congrArg some (h9 d9 eG))
        have hC := hkeep hW HM1.out
        have c0 := hcell (k := 0) (v := .int .i64 m.cf.clear) hC rfl
        have c1 := hcell (k := 1) (v := .int .i64 m.cf.climb) hC rfl
        have c2 := hcell (k := 2) (v := .int .i64 m.cf.height) hC rfl
        have c3 := hcell (k := 3) (v := .int .i64 m.cf.rise) hC rfl
        have c4 := hcell (k := 4) (v := .int .i64 m.cf.run) hC rfl
        have c5 := hcell (k := 5) (v := .int .i64 m.cf.w) hC rfl
        have c6 := hcell (k := 6) (v := .int .i64 m.cf.d) hC rfl
        clear hoff hon hd
        refine wpOp_wantG 6 21 true rfl rfl rfl gG ?_
        go_simp
        exact hK.out _ _ ⟨(hW), (updB_imp i6 (fun _ _ => dG)), (updB_imp i16 (fun h1 h2 => by omega)), (h0), (h1), (h2), (h3), (e4), (e5), (e6), (h7), (h8), (h9), (fun _ _ => rfl), (h11), (h12), (e13), (e14), (e15), (e16), (h17), (h18), (h19), (e20), (e21), (e22)⟩
    · intro hb hd hK
      have dG := hd 6 (by kernel_rfl)
      obtain ⟨q, eG⟩ := e6 dG
      have gG : t[(21 : Nat)]? = some (.bool q) := (hon 6 21 rfl).trans (congrArg some eG)
      cases q with
      | false => exact wpOp_skipG 6 21 false true rfl rfl gG rfl (hK.out _ _ ⟨(hW), (updB_imp i6 (fun _ _ => dG)), (updB_imp i16 (fun h1 h2 => by omega)), (h0), (h1), (h2), (h3), (e4), (e5), (e6), (h7), (h8), (h9), (h10), (fun _ h6 => absurd (eG.symm.trans h6) (by intro h; cases h)), (h12), (e13), (e14), (e15), (e16), (h17), (h18), (h19), (e20), (e21), (e22)⟩)
      | true =>
        have g1 : t[(1 : Nat)]? = some (.pointer (some ⟨S0, 0, none⟩)) := hoff 1 _ rfl rfl
        clear hoff hon hd
        refine wpOp_wantG 6 21 true rfl rfl rfl gG ?_
        go_simp
        exact hK.out _ _ ⟨(hW), (updB_imp i6 (fun _ _ => dG)), (updB_imp i16 (fun h1 h2 => by omega)), (h0), (h1), (h2), (h3), (e4), (e5), (e6), (h7), (h8), (h9), (h10), (fun _ _ => rfl), (h12), (e13), (e14), (e15), (e16), (h17), (h18), (h19), (e20), (e21), (e22)⟩
    · intro hb hd hK
      have dG := hd 6 (by kernel_rfl)
      obtain ⟨q, eG⟩ := e6 dG
      have gG : t[(21 : Nat)]? = some (.bool q) := (hon 6 21 rfl).trans (congrArg some eG)
      cases q with
      | false => exact wpOp_skipG 6 21 false true rfl rfl gG rfl (hK.out _ _ ⟨(hW), (updB_imp i6 (fun _ _ => dG)), (updB_imp i16 (fun h1 h2 => by omega)), (h0), (h1), (h2), (h3), (e4), (e5), (e6), (h7), (h8), (h9), (h10), (h11), (fun _ h6 => absurd (eG.symm.trans h6) (by intro h; cases h)), (e13), (e14), (e15), (e16), (h17), (h18), (h19), (e20), (e21), (e22)⟩)
      | true =>
        have d11 := hd 11 (by kernel_rfl)
        have g26 : t[(26 : Nat)]? = some (.pointer (some ⟨S0, 7, none⟩)) := (hon 11 26 rfl).trans (congrArg some (h11 d11 eG))
        have c0 := hcell (k := 7) (v := .slice m.ta m.tn m.tc) (hkeep hW HM1.out) rfl
        clear hoff hon hd
        refine wpOp_wantG 6 21 true rfl rfl rfl gG ?_
        go_simp
        exact hK.out _ _ ⟨(hW), (updB_imp i6 (fun _ _ => dG)), (updB_imp i16 (fun h1 h2 => by omega)), (h0), (h1), (h2), (h3), (e4), (e5), (e6), (h7), (h8), (h9), (h10), (h11), (fun _ _ => rfl), (e13), (e14), (e15), (e16), (h17), (h18), (h19), (e20), (e21), (e22)⟩
    · intro hb hd hK
      have dG := hd 6 (by kernel_rfl)
      obtain ⟨q, eG⟩ := e6 dG
      have gG : t[(21 : Nat)]? = some (.bool q) := (hon 6 21 rfl).trans (congrArg some eG)
      cases q with
      | false => exact wpOp_skipG 6 21 false true rfl rfl gG rfl (hK.out _ _ ⟨(hW), (updB_imp i6 (fun _ _ => dG)), (updB_imp i16 (fun h1 h2 => by omega)), (h0), (h1), (h2), (h3), (e4), (e5), (e6), (h7), (h8), (h9), (h10), (h11), (h12), (fun _ h6 => absurd (eG.symm.trans h6) (by intro h; cases h)), (e14), (e15), (e16), (h17), (h18), (h19), (e20), (e21), (e22)⟩)
      | true =>
        have d10 := hd 10 (by kernel_rfl)
        have g25 : t[(25 : Nat)]? = some (.agg #[.int .i64 m.cf.clear, .int .i64 m.cf.climb, .int .i64 m.cf.height, .int .i64 m.cf.rise, .int .i64 m.cf.run, .int .i64 m.cf.w, .int .i64 m.cf.d]) := (hon 10 25 rfl).trans (congrArg some (h10 d10 eG))
        have d12 := hd 12 (by kernel_rfl)
        have g27 : t[(27 : Nat)]? = some (.slice m.ta m.tn m.tc) := (hon 12 27 rfl).trans (congrArg some (h12 d12 eG))
        clear hoff hon hd
        refine wpOp_wantG 6 21 true rfl rfl rfl gG ?_
        go_simp
        go_at_call 84
        refine (AL.out _ (hB1.trans (hW.mono hB1.size))).mono ?_
        rintro e wz ⟨⟨a, k, c, ds, rfl, hs⟩, hbz⟩
        (try go_simp)
        exact hK.out _ _ ⟨(hW.trans (hbz.mono hW.size)), (updB_imp i6 (fun _ _ => dG)), (updB_imp i16 (fun h1 h2 => by omega)), (h0), (h1), (h2), (h3), (fun h => by obtain ⟨a, k, c, rs, e, hs⟩ := e4 h; exact ⟨a, k, c, rs, e, hs.below hbz (Nat.le_refl _)⟩), (e5), (e6), (h7), (h8), (h9), (h10), (h11), (h12), (fun _ _ => ⟨a, k, c, ds, rfl, hs⟩), (e14), (e15), (e16), (h17), (h18), (h19), (e20), (e21), (e22)⟩
    · intro hb hd hK
      have dG := hd 6 (by kernel_rfl)
      obtain ⟨q, eG⟩ := e6 dG
      have gG : t[(21 : Nat)]? = some (.bool q) := (hon 6 21 rfl).trans (congrArg some eG)
      cases q with
      | false => exact wpOp_skipG 6 21 false true rfl rfl gG rfl (hK.out _ _ ⟨(hW), (updB_imp i6 (fun _ _ => dG)), (updB_imp i16 (fun h1 h2 => by omega)), (h0), (h1), (h2), (h3), (e4), (e5), (e6), (h7), (h8), (h9), (h10), (h11), (h12), (e13), (fun _ h6 => absurd (eG.symm.trans h6) (by intro h; cases h)), (e15), (e16), (h17), (h18), (h19), (e20), (e21), (e22)⟩)
      | true =>
        have d8 := hd 8 (by kernel_rfl)
        have g23 : t[(23 : Nat)]? = some (.slice m.da m.dn m.dc) := (hon 8 23 rfl).trans (congrArg some (h8 d8 eG))
        have d13 := hd 13 (by kernel_rfl)
        have p13 := e13 d13 eG
        have g28 : t[(28 : Nat)]? = some (vals 13) := hon 13 28 rfl
        obtain ⟨ua, uk, uc, us, eu, hus⟩ := p13
        rw [eu] at g28
        clear hoff hon hd
        refine wpOp_wantG 6 21 true rfl rfl rfl gG ?_
        go_simp
        go_at_call 55
        refine (DE.out ua uk uc us _ (hB1.trans (hW.mono hB1.size)) hus).mono ?_
        rintro e wz ⟨rfl, hbz⟩
        (try go_simp)
        exact hK.out _ _ ⟨(hW.trans (hbz.mono hW.size)), (updB_imp i6 (fun _ _ => dG)), (updB_imp i16 (fun h1 h2 => by omega)), (h0), (h1), (h2), (h3), (fun h => by obtain ⟨a, k, c, rs, e, hs⟩ := e4 h; exact ⟨a, k, c, rs, e, hs.below hbz (Nat.le_refl _)⟩), (e5), (e6), (h7), (h8), (h9), (h10), (h11), (h12), (fun h h6 => by obtain ⟨a, k, c, ds, e, hs⟩ := e13 h h6; exact ⟨a, k, c, ds, e, hs.below hbz (Nat.le_refl _)⟩), (fun _ _ => ⟨_, rfl⟩), (e15), (e16), (h17), (h18), (h19), (e20), (e21), (e22)⟩
    · intro hb hd hK
      have d6 := hd 6 (by kernel_rfl)
      have d14 := hd 14 (by kernel_rfl)
      obtain ⟨q, eq⟩ := e6 d6
      have g21 : t[(21 : Nat)]? = some (.bool q) := (hon 6 21 rfl).trans (congrArg some eq)
      have gv : t[(29 : Nat)]? = some (vals 14) := hon 14 29 rfl
      cases q with
      | false =>
        clear hoff hon hd
        refine wpOp_of rfl rfl ?_
        go_simp
        exact hK.out _ _ ⟨(hW), (updB_imp i6 (fun h1 h2 => by omega)), (updB_imp i16 (fun h1 h2 => by omega)), (h0), (h1), (h2), (h3), (e4), (e5), (e6), (h7), (h8), (h9), (h10), (h11), (h12), (e13), (e14), (fun _ => ⟨_, rfl⟩), (e16), (h17), (h18), (h19), (e20), (e21), (e22)⟩
      | true =>
        obtain ⟨q2, eq2⟩ := e14 d14 eq
        rw [eq2] at gv
        clear hoff hon hd
        refine wpOp_of rfl rfl ?_
        go_simp
        exact hK.out _ _ ⟨(hW), (updB_imp i6 (fun h1 h2 => by omega)), (updB_imp i16 (fun h1 h2 => by omega)), (h0), (h1), (h2), (h3), (e4), (e5), (e6), (h7), (h8), (h9), (h10), (h11), (h12), (e13), (e14), (fun _ => ⟨_, rfl⟩), (e16), (h17), (h18), (h19), (e20), (e21), (e22)⟩
    · intro hb hd hK
      have d15 := hd 15 (by kernel_rfl)
      have p15 := e15 d15
      have g30 : t[(30 : Nat)]? = some (vals 15) := hon 15 30 rfl
      obtain ⟨q, eq15⟩ := p15
      rw [eq15] at g30
      clear hoff hon hd
      refine wpOp_of rfl rfl ?_
      go_simp
      exact hK.out _ _ ⟨(hW), (updB_imp i6 (fun h1 h2 => by omega)), (updB_imp i16 (fun h1 h2 => by omega)), (h0), (h1), (h2), (h3), (e4), (e5), (e6), (h7), (h8), (h9), (h10), (h11), (h12), (e13), (e14), (e15), (fun _ => ⟨_, rfl⟩), (fun h _ => absurd (i16 17 (by omega) (by omega) (show b 17 = true from h)) (by rw [hb]; decide)), (fun h _ => absurd (i16 18 (by omega) (by omega) (show b 18 = true from h)) (by rw [hb]; decide)), (fun h _ => absurd (i16 19 (by omega) (by omega) (show b 19 = true from h)) (by rw [hb]; decide)), (fun h _ => absurd (i16 20 (by omega) (by omega) (show b 20 = true from h)) (by rw [hb]; decide)), (e21), (e22)⟩
    · intro hb hd hK
      have dG := hd 16 (by kernel_rfl)
      obtain ⟨q, eG⟩ := e16 dG
      have gG : t[(31 : Nat)]? = some (.bool q) := (hon 16 31 rfl).trans (congrArg some eG)
      cases q with
      | false => exact wpOp_skipG 16 31 false true rfl rfl gG rfl (hK.out _ _ ⟨(hW), (updB_imp i6 (fun h1 h2 => by omega)), (updB_imp i16 (fun _ _ => dG)), (h0), (h1), (h2), (h3), (e4), (e5), (e6), (h7), (h8), (h9), (h10), (h11), (h12), (e13), (e14), (e15), (e16), (fun _ h6 => absurd (eG.symm.trans h6) (by intro h; cases h)), (h18), (h19), (e20), (e21), (e22)⟩)
      | true =>
        have g1 : t[(1 : Nat)]? = some (.pointer (some ⟨S0, 0, none⟩)) := hoff 1 _ rfl rfl
        clear hoff hon hd
        refine wpOp_wantG 16 31 true rfl rfl rfl gG ?_
        go_simp
        exact hK.out _ _ ⟨(hW), (updB_imp i6 (fun h1 h2 => by omega)), (updB_imp i16 (fun _ _ => dG)), (h0), (h1), (h2), (h3), (e4), (e5), (e6), (h7), (h8), (h9), (h10), (h11), (h12), (e13), (e14), (e15), (e16), (fun _ _ => rfl), (h18), (h19), (e20), (e21), (e22)⟩
    · intro hb hd hK
      have dG := hd 16 (by kernel_rfl)
      obtain ⟨q, eG⟩ := e16 dG
      have gG : t[(31 : Nat)]? = some (.bool q) := (hon 16 31 rfl).trans (congrArg some eG)
      cases q with
      | false => exact wpOp_skipG 16 31 false true rfl rfl gG rfl (hK.out _ _ ⟨(hW), (updB_imp i6 (fun h1 h2 => by omega)), (updB_imp i16 (fun _ _ => dG)), (h0), (h1), (h2), (h3), (e4), (e5), (e6), (h7), (h8), (h9), (h10), (h11), (h12), (e13), (e14), (e15), (e16), (h17), (fun _ h6 => absurd (eG.symm.trans h6) (by intro h; cases h)), (h19), (e20), (e21), (e22)⟩)
      | true =>
        have d17 := hd 17 (by kernel_rfl)
        have g32 : t[(32 : Nat)]? = some (.pointer (some ⟨S0, 10, none⟩)) := (hon 17 32 rfl).trans (congrArg some (h17 d17 eG))
        have c0 := hcell (k := 10) (v := .slice m.ha m.hn m.hc) (hkeep hW HM1.out) rfl
        clear hoff hon hd
        refine wpOp_wantG 16 31 true rfl rfl rfl gG ?_
        go_simp
        exact hK.out _ _ ⟨(hW), (updB_imp i6 (fun h1 h2 => by omega)), (updB_imp i16 (fun _ _ => dG)), (h0), (h1), (h2), (h3), (e4), (e5), (e6), (h7), (h8), (h9), (h10), (h11), (h12), (e13), (e14), (e15), (e16), (h17), (fun _ _ => rfl), (h19), (e20), (e21), (e22)⟩
    · intro hb hd hK
      have dG := hd 16 (by kernel_rfl)
      obtain ⟨q, eG⟩ := e16 dG
      have gG : t[(31 : Nat)]? = some (.bool q) := (hon 16 31 rfl).trans (congrArg some eG)
      cases q with
      | false => exact wpOp_skipG 16 31 false true rfl rfl gG rfl (hK.out _ _ ⟨(hW), (updB_imp i6 (fun h1 h2 => by omega)), (updB_imp i16 (fun _ _ => dG)), (h0), (h1), (h2), (h3), (e4), (e5), (e6), (h7), (h8), (h9), (h10), (h11), (h12), (e13), (e14), (e15), (e16), (h17), (h18), (fun _ h6 => absurd (eG.symm.trans h6) (by intro h; cases h)), (e20), (e21), (e22)⟩)
      | true =>
        have d18 := hd 18 (by kernel_rfl)
        have g33 : t[(33 : Nat)]? = some (.slice m.ha m.hn m.hc) := (hon 18 33 rfl).trans (congrArg some (h18 d18 eG))
        clear hoff hon hd
        refine wpOp_wantG 16 31 true rfl rfl rfl gG ?_
        go_simp
        exact hK.out _ _ ⟨(hW), (updB_imp i6 (fun h1 h2 => by omega)), (updB_imp i16 (fun _ _ => dG)), (h0), (h1), (h2), (h3), (e4), (e5), (e6), (h7), (h8), (h9), (h10), (h11), (h12), (e13), (e14), (e15), (e16), (h17), (h18), (fun _ _ => rfl), (e20), (e21), (e22)⟩
    · intro hb hd hK
      have dG := hd 16 (by kernel_rfl)
      obtain ⟨q, eG⟩ := e16 dG
      have gG : t[(31 : Nat)]? = some (.bool q) := (hon 16 31 rfl).trans (congrArg some eG)
      cases q with
      | false => exact wpOp_skipG 16 31 false true rfl rfl gG rfl (hK.out _ _ ⟨(hW), (updB_imp i6 (fun h1 h2 => by omega)), (updB_imp i16 (fun _ _ => dG)), (h0), (h1), (h2), (h3), (e4), (e5), (e6), (h7), (h8), (h9), (h10), (h11), (h12), (e13), (e14), (e15), (e16), (h17), (h18), (h19), (fun _ h6 => absurd (eG.symm.trans h6) (by intro h; cases h)), (e21), (e22)⟩)
      | true =>
        have d19 := hd 19 (by kernel_rfl)
        have g34 : t[(34 : Nat)]? = some (.int .i64 (m.hn : Nat)) := (hon 19 34 rfl).trans (congrArg some (h19 d19 eG))
        clear hoff hon hd
        refine wpOp_wantG 16 31 true rfl rfl rfl gG ?_
        go_simp
        exact hK.out _ _ ⟨(hW), (updB_imp i6 (fun h1 h2 => by omega)), (updB_imp i16 (fun _ _ => dG)), (h0), (h1), (h2), (h3), (e4), (e5), (e6), (h7), (h8), (h9), (h10), (h11), (h12), (e13), (e14), (e15), (e16), (h17), (h18), (h19), (fun _ _ => ⟨_, rfl⟩), (e21), (e22)⟩
    · intro hb hd hK
      have d16 := hd 16 (by kernel_rfl)
      have d20 := hd 20 (by kernel_rfl)
      obtain ⟨q, eq⟩ := e16 d16
      have g31 : t[(31 : Nat)]? = some (.bool q) := (hon 16 31 rfl).trans (congrArg some eq)
      have gv : t[(35 : Nat)]? = some (vals 20) := hon 20 35 rfl
      cases q with
      | false =>
        clear hoff hon hd
        refine wpOp_of rfl rfl ?_
        go_simp
        exact hK.out _ _ ⟨(hW), (updB_imp i6 (fun h1 h2 => by omega)), (updB_imp i16 (fun h1 h2 => by omega)), (h0), (h1), (h2), (h3), (e4), (e5), (e6), (h7), (h8), (h9), (h10), (h11), (h12), (e13), (e14), (e15), (e16), (h17), (h18), (h19), (e20), (fun _ => ⟨_, rfl⟩), (e22)⟩
      | true =>
        obtain ⟨q2, eq2⟩ := e20 d20 eq
        rw [eq2] at gv
        clear hoff hon hd
        refine wpOp_of rfl rfl ?_
        go_simp
        exact hK.out _ _ ⟨(hW), (updB_imp i6 (fun h1 h2 => by omega)), (updB_imp i16 (fun h1 h2 => by omega)), (h0), (h1), (h2), (h3), (e4), (e5), (e6), (h7), (h8), (h9), (h10), (h11), (h12), (e13), (e14), (e15), (e16), (h17), (h18), (h19), (e20), (fun _ => ⟨_, rfl⟩), (e22)⟩
    · intro hb hd hK
      have d21 := hd 21 (by kernel_rfl)
      have p21 := e21 d21
      have g36 : t[(36 : Nat)]? = some (vals 21) := hon 21 36 rfl
      obtain ⟨q, eq21⟩ := p21
      rw [eq21] at g36
      clear hoff hon hd
      refine wpOp_of rfl rfl ?_
      go_simp
      exact hK.out _ _ ⟨(hW), (updB_imp i6 (fun h1 h2 => by omega)), (updB_imp i16 (fun h1 h2 => by omega)), (h0), (h1), (h2), (h3), (e4), (e5), (e6), (h7), (h8), (h9), (h10), (h11), (h12), (e13), (e14), (e15), (e16), (h17), (h18), (h19), (e20), (e21), (fun _ => ⟨_, rfl⟩)⟩
  · intro bq vals wi hR hall
    obtain ⟨hW, i6, i16, h0, h1, h2, h3, e4, e5, e6, h7, h8, h9, h10, h11, h12, e13, e14, e15, e16, h17, h18, h19, e20, e21, e22⟩ := hR
    obtain ⟨ok, e22⟩ := e22 (hall 22 (by decide))
    dsimp only [over]
    rw [e22]
    have hM2 := hkeep hW HM1.out
    have hB2 := hB1.trans (hW.mono hB1.size)
    clear h0 h1 h2 h3 h7 h8 h9 h10 h11 h12 h17 h18 h19 e4 e5 e6 e13 e14 e15 e16 e20 e21 e22 i6 i16 hall hW hB1 HM1 RS AL SM DE
    have c10 := hcell (k := 10) (v := .slice m.ha m.hn m.hc) hM2 rfl
    go_wp2_with fail
    clear c10
    go_loopw [4, 40] (fun s4 s40 wr => ∃ (k : Nat) (ok : Bool), s4 = .bool ok ∧ s40 = .int .i64 k ∧ k ≤ m.hn ∧ wr.heap[S0]? = some (.cells #[.int .i64 m.cf.clear, .int .i64 m.cf.climb, .int .i64 m.cf.height, .int .i64 m.cf.rise, .int .i64 m.cf.run, .int .i64 m.cf.w, .int .i64 m.cf.d, .slice m.ta m.tn m.tc, .slice m.ra m.rn m.rc, .slice m.da m.dn m.dc, .slice m.ha m.hn m.hc] 43 (0, 0)) ∧ Below w.heap.size w wr) (fun _ s40 _ => m.hn - (intOf s40).toNat)
    case atStart => exact ⟨0, ok, rfl, rfl, Nat.zero_le _, hM2, hB2⟩
    case round =>
      clear hM2 hB2
      obtain ⟨k, ok, rfl, rfl, hk, hM2, hB2⟩ := hrel
      by_cases hkn : k < m.hn
      case neg =>
        obtain rfl : m.hn = k := by omega
        have hK : ¬ (m.hn : Int) < (m.hn : Int) := by omega
        clear hM2
        cases ok with
        | true =>
          go_wp2
          go_ret
          exact And.intro ⟨_, rfl⟩ hB2
        | false =>
          go_wp2
          go_ret
          exact And.intro ⟨_, rfl⟩ hB2
      have hK : (k : Int) < (m.hn : Int) := by omega
      have wk1 : IntKind.i64.wrap ((k : Int) + 1) = ((k + 1 : Nat) : Int) := by rw [IntKind.wrap_i64]; omega
      have hHS := (HAt.out _ hB2).h
      obtain ⟨⟨hid, ⟨hftile, hfrect, hfx, hfz, hfy⟩, ⟨httile, htrect, htx, htz, hty⟩, hbo, hac, hco⟩, hhk⟩ : ∃ x, m.hs[k]? = some x := ⟨_, List.getElem?_eq_getElem (by rw [HHl.out]; exact hkn)⟩
      obtain ⟨G, off, hha, _, _⟩ := hHS.at0 (by omega)
      rw [hha] at hHS hM2 ST
      rw [hha]
      have r0 := SlR.cells hHS hhk 0 _ rfl
      have r1 := SlR.cells hHS hhk 1 _ rfl
      have r2 := SlR.cells hHS hhk 2 _ rfl
      have r3 := SlR.cells hHS hhk 3 _ rfl
      have r4 := SlR.cells hHS hhk 4 _ rfl
      have r5 := SlR.cells hHS hhk 5 _ rfl
      have r6 := SlR.cells hHS hhk 6 _ rfl
      have r7 := SlR.cells hHS hhk 7 _ rfl
      have r8 := SlR.cells hHS hhk 8 _ rfl
      have r9 := SlR.cells hHS hhk 9 _ rfl
      have r10 := SlR.cells hHS hhk 10 _ rfl
      have r11 := SlR.cells hHS hhk 11 _ rfl
      have r12 := SlR.cells hHS hhk 12 _ rfl
      have r13 := SlR.cells hHS hhk 13 _ rfl
      simp only [Nat.add_zero] at r0
      dsimp only [acC, enL] at r0 r1 r2 r3 r4 r5 r6 r7 r8 r9 r10 r11 r12 r13
      have hA3 : Below wr.heap.size wr (wr.alloc (.cells #[.int .i64 hid, .int .i64 hftile, .int .i64 hfrect, .int .i64 hfx, .int .i64 hfz, .int .i64 hfy, .int .i64 httile, .int .i64 htrect, .int .i64 htx, .int .i64 htz, .int .i64 hty, .bool hbo, .int .i64 hac, .int .i64 hco] 123 (0, 0))) := (Below.refl _ _).alloc (Nat.le_refl _) _
      have hH3 := World.alloc_heap_new wr (.cells #[.int .i64 hid, .int .i64 hftile, .int .i64 hfrect, .int .i64 hfx, .int .i64 hfz, .int .i64 hfy, .int .i64 httile, .int .i64 htrect, .int .i64 htx, .int .i64 htz, .int .i64 hty, .bool hbo, .int .i64 hac, .int .i64 hco] 123 (0, 0))
      have hM3 := hkeep hA3 hM2
      have hB3 := hB2.trans (hA3.mono hB2.size)
      have HSL := Lib.hid (hHS.below hA3 (Nat.le_refl _))
      obtain ⟨W3, hW3⟩ : ∃ W, W = wr.alloc (.cells #[.int .i64 hid, .int .i64 hftile, .int .i64 hfrect, .int .i64 hfx, .int .i64 hfz, .int .i64 hfy, .int .i64 httile, .int .i64 htrect, .int .i64 htx, .int .i64 htz, .int .i64 hty, .bool hbo, .int .i64 hac, .int .i64 hco] 123 (0, 0)) := ⟨_, rfl⟩
      obtain ⟨S3, hS3⟩ : ∃ S, S = wr.heap.size := ⟨_, rfl⟩
      rw [← hW3] at hH3 hM3 hB3 HSL
      rw [← hS3] at hH3
      clear hhk hHS hB2 hM2 hA3
      go_upto_region 8 with fail
      rw [← hW3, ← hS3]
      have HM3 := Lib.hid hM3
      have HH3 := Lib.hid hH3
      clear hW3 hS3 hM3 hH3 r0 r1 r2 r3 r4 r5 r6 r7 r8 r9 r10 r11 r12 r13
      have ST2 := Lib.hid (fun W (hb : Below w.heap.size w W) => ST.out ⟨hid, ⟨hftile, hfrect, hfx, hfz, hfy⟩, ⟨httile, htrect, htx, htz, hty⟩, hbo, hac, hco⟩ W hb)
      dsimp only at ST2
      cases ok with
      | false =>
        refine wp_region_quiet_below (by kernel_rfl) (by kernel_rfl) ?_
        repeat (go_big_quiet_step (fail))
        refine wpQuiet_nil ?_
        rintro w4 ⟨⟨dq, osq⟩, hw4⟩
        have hW : Below W3.heap.size W3 w4 := by rw [hw4]; exact below_regrown W3 dq osq
        have hM4 := hkeep hW HM3.out
        have hB4 := hB3.trans (hW.mono hB3.size)
        clear hw4 hW
        go_wp2
        go_roundw
        case rel => exact ⟨k + 1, false, rfl, by go_num, by omega, hM4, hB4⟩
        case measure => simp [intOf]; omega
      | true =>
      by_cases hk0 : k = 0
      case pos =>
        subst hk0
        refine wp_region_fun0 ([none, none, none, none, some 22, none, none, none, none, none, none, none, none, none, none, none, none, none, none, none, none, none, none, none, none, none, none, none, none, none, none, none, none, none, none, none, none, none, none, none, none, none, none, none, none, some 0, some 1, some 2, some 3, some 4, some 5, some 6, some 7, some 8, some 9, some 10, some 11, some 12, some 13, some 14, some 15, some 16, some 17, some 18, some 19, some 20, some 21, none, none, none]) (fun (b : Nat → Bool) (vals : Nat → Value) (W : World) => Below W3.heap.size W3 W ∧ (∀ j, 7 ≤ j → j ≤ 20 → b j = true → b 6 = true) ∧ (∀ j, 10 ≤ j → j ≤ 19 → b j = true → b 9 = true) ∧ (b 0 = true → vals 0 = .bool true) ∧ (b 1 = true → vals 1 = .bool true) ∧ (b 2 = true → vals 2 = .agg #[.int .i64 m.cf.clear, .int .i64 m.cf.climb, .int .i64 m.cf.height, .int .i64 m.cf.rise, .int .i64 m.cf.run, .int .i64 m.cf.w, .int .i64 m.cf.d, .slice m.ta m.tn m.tc, .slice m.ra m.rn m.rc, .slice m.da m.dn m.dc, .slice (some ⟨G, off, none⟩) m.hn m.hc]) ∧ (b 3 = true → vals 3 = .agg #[.int .i64 hid, .int .i64 hftile, .int .i64 hfrect, .int .i64 hfx, .int .i64 hfz, .int .i64 hfy, .int .i64 httile, .int .i64 htrect, .int .i64 htx, .int .i64 htz, .int .i64 hty, .bool hbo, .int .i64 hac, .int .i64 hco]) ∧ (b 4 = true → ∃ q : Bool, vals 4 = .bool q) ∧ (b 5 = true → ∃ q : Bool, vals 5 = .bool q) ∧ (b 6 = true → ∃ q : Bool, vals 6 = .bool q) ∧ (b 7 = true → vals 6 = .bool true → vals 7 = .int .i64 (0)) ∧ (b 8 = true → vals 6 = .bool true → vals 8 = .bool true) ∧ (b 9 = true → vals 6 = .bool true → vals 9 = .bool true) ∧ (b 9 = true → vals 6 = .bool false → vals 9 = undef) ∧ (b 20 = true → vals 6 = .bool true → ∃ q : Bool, vals 20 = .bool q) ∧ (b 21 = true → ∃ q : Bool, vals 21 = .bool q) ∧ (b 22 = true → ∃ q : Bool, vals 22 = .bool q) ∧ (b 0 = false → vals 22 = .bool true)) (by kernel_rfl) (by kernel_rfl) (by kernel_rfl) (by kernel_rfl) ?_ ?_ ?_
        · intro vals hv0
          exact ⟨(Below.refl _ _).drew, (fun j _ _ h => by cases (show false = true from h)), (fun j _ _ h => by cases (show false = true from h)), (fun h => by cases (show false = true from h)), (fun h => by cases (show false = true from h)), (fun h => by cases (show false = true from h)), (fun h => by cases (show false = true from h)), (fun h => by cases (show false = true from h)), (fun h => by cases (show false = true from h)), (fun h => by cases (show false = true from h)), (fun h => by cases (show false = true from h)), (fun h => by cases (show false = true from h)), (fun h => by cases (show false = true from h)), (fun h => by cases (show false = true from h)), (fun h => by cases (show false = true from h)), (fun h => by cases (show false = true from h)), (fun h => by cases (show false = true from h)), (fun _ => (Option.some.inj (show some (.bool true) = some (vals 22) from hv0 22 4 rfl)).symm)⟩
        · intro Q' K t b vals wi hoff hon i hlt hR hb hd hK
          have hlt : i < 23 := hlt
          obtain ⟨hW, i6, i9, h0, h1, h2, h3, e4, e5, e6, h7, h8, h9, u9, e20, e21, e22, v22⟩ := hR
          revert hb hd hK
          cases i, hlt using cas23
          · intro hb hd hK
            have g4 : t[(4 : Nat)]? = some (.bool true) := (hon 22 4 rfl).trans (congrArg some (v22 hb))
            clear hoff hon hd
            refine wpOp_of rfl rfl ?_
            go_simp
            exact hK.out _ _ ⟨(hW), (updB_imp i6 (fun h1 h2 => by omega)), (updB_imp i9 (fun h1 h2 => by omega)), (fun _ => rfl), (h1), (h2), (h3), (e4), (e5), (e6), (h7), (h8), (h9), (u9), (e20), (e21), (e22), (fun h => by cases (show true = false from h))⟩
          · intro hb hd hK
            have d0 := hd 0 (by kernel_rfl)
            have g45 : t[(45 : Nat)]? = some (.bool true) := (hon 0 45 rfl).trans (congrArg some (h0 d0))
            clear hoff hon hd
            refine wpOp_of rfl rfl ?_
            go_simp
            exact hK.out _ _ ⟨(hW), (updB_imp i6 (fun h1 h2 => by omega)), (updB_imp i9 (fun h1 h2 => by omega)), (h0), (fun _ => rfl), (h2), (h3), (e4), (e5), (e6), (h7), (h8), (h9), (u9), (e20), (e21), (e22), (v22)⟩
          · intro hb hd hK
            have dG := hd 1 (by kernel_rfl)
            have gG : t[(46 : Nat)]? = some (.bool true) := (hon 1 46 rfl).trans (congrArg some (h1 dG))
            have g1 : t[(1 : Nat)]? = some (.pointer (some ⟨S0, 0, none⟩)) := hoff 1 _ rfl rfl
            have hC := hkeep hW HM3.out
            have c0 := hcell (k := 0) (v := .int .i64 m.cf.clear) hC rfl
            have c1 := hcell (k := 1) (v := .int .i64 m.cf.climb) hC rfl
            have c2 := hcell (k := 2) (v := .int .i64 m.cf.height) hC rfl
            have c3 := hcell (k := 3) (v := .int .i64 m.cf.rise) hC rfl
            have c4 := hcell (k := 4) (v := .int .i64 m.cf.run) hC rfl
            have c5 := hcell (k := 5) (v := .int .i64 m.cf.w) hC rfl
            have c6 := hcell (k := 6) (v := .int .i64 m.cf.d) hC rfl
            have c7 := hcell (k := 7) (v := .slice m.ta m.tn m.tc) hC rfl
            have c8 := hcell (k := 8) (v := .slice m.ra m.rn m.rc) hC rfl
            have c9 := hcell (k := 9) (v := .slice m.da m.dn m.dc) hC rfl
            have c10 := hcell (k := 10) (v := .slice (some ⟨G, off, none⟩) m.hn m.hc) hC rfl
            clear hoff hon hd
            refine wpOp_wantG 1 46 true rfl rfl rfl gG ?_
            go_simp
            exact hK.out _ _ ⟨(hW), (updB_imp i6 (fun h1 h2 => by omega)), (updB_imp i9 (fun h1 h2 => by omega)), (h0), (h1), (fun _ => rfl), (h3), (e4), (e5), (e6), (h7), (h8), (h9), (u9), (e20), (e21), (e22), (v22)⟩
          · intro hb hd hK
            have dG := hd 1 (by kernel_rfl)
            have gG : t[(46 : Nat)]? = some (.bool true) := (hon 1 46 rfl).trans (congrArg some (h1 dG))
            have g6 : t[(6 : Nat)]? = some (.pointer (some ⟨S3, 0, none⟩)) := hoff 6 _ rfl rfl
            have hC := hkeep hW HH3.out
            have c0 := hcell (k := 0) (v := .int .i64 hid) hC rfl
            have c1 := hcell (k := 1) (v := .int .i64 hftile) hC rfl
            have c2 := hcell (k := 2) (v := .int .i64 hfrect) hC rfl
            have c3 := hcell (k := 3) (v := .int .i64 hfx) hC rfl
            have c4 := hcell (k := 4) (v := .int .i64 hfz) hC rfl
            have c5 := hcell (k := 5) (v := .int .i64 hfy) hC rfl
            have c6 := hcell (k := 6) (v := .int .i64 httile) hC rfl
            have c7 := hcell (k := 7) (v := .int .i64 htrect) hC rfl
            have c8 := hcell (k := 8) (v := .int .i64 htx) hC rfl
            have c9 := hcell (k := 9) (v := .int .i64 htz) hC rfl
            have c10 := hcell (k := 10) (v := .int .i64 hty) hC rfl
            have c11 := hcell (k := 11) (v := .bool hbo) hC rfl
            have c12 := hcell (k := 12) (v := .int .i64 hac) hC rfl
            have c13 := hcell (k := 13) (v := .int .i64 hco) hC rfl
            clear hoff hon hd
            refine wpOp_wantG 1 46 true rfl rfl rfl gG ?_
            go_simp
            exact hK.out _ _ ⟨(hW), (updB_imp i6 (fun h1 h2 => by omega)), (updB_imp i9 (fun h1 h2 => by omega)), (h0), (h1), (h2), (fun _ => rfl), (e4), (e5), (e6), (h7), (h8), (h9), (u9), (e20), (e21), (e22), (v22)⟩
          · intro hb hd hK
            have dG := hd 1 (by kernel_rfl)
            have gG : t[(46 : Nat)]? = some (.bool true) := (hon 1 46 rfl).trans (congrArg some (h1 dG))
            have d2 := hd 2 (by kernel_rfl)
            have g47 : t[(47 : Nat)]? = some (.agg #[.int .i64 m.cf.clear, .int .i64 m.cf.climb, .int .i64 m.cf.height, .int .i64 m.cf.rise, .int .i64 m.cf.run, .int .i64 m.cf.w, .int .i64 m.cf.d, .slice m.ta m.tn m.tc, .slice m.ra m.rn m.rc, .slice m.da m.dn m.dc, .slice (some ⟨G, off, none⟩) m.hn m.hc]) := (hon 2 47 rfl).trans (congrArg some (h2 d2))
            have d3 := hd 3 (by kernel_rfl)
            have g48 : t[(48 : Nat)]? = some (.agg #[.int .i64 hid, .int .i64 hftile, .int .i64 hfrect, .int .i64 hfx, .int .i64 hfz, .int .i64 hfy, .int .i64 httile, .int .i64 htrect, .int .i64 htx, .int .i64 htz, .int .i64 hty, .bool hbo, .int .i64 hac, .int .i64 hco]) := (hon 3 48 rfl).trans (congrArg some (h3 d3))
            clear hoff hon hd
            refine wpOp_wantG 1 46 true rfl rfl rfl gG ?_
            go_simp
            go_at_call 85
            refine (ST2.out _ (hB3.trans (hW.mono hB3.size))).mono ?_
            rintro e wz ⟨⟨q, rfl⟩, hbz⟩
            (try go_simp)
            exact hK.out _ _ ⟨(hW.trans (hbz.mono hW.size)), (updB_imp i6 (fun h1 h2 => by omega)), (updB_imp i9 (fun h1 h2 => by omega)), (h0), (h1), (h2), (h3), (fun _ => ⟨_, rfl⟩), (e5), (e6), (h7), (h8), (h9), (u9), (e20), (e21), (e22), (v22)⟩
          · intro hb hd hK
            have d1 := hd 1 (by kernel_rfl)
            have g46 : t[(46 : Nat)]? = some (.bool true) := (hon 1 46 rfl).trans (congrArg some (h1 d1))
            have d4 := hd 4 (by kernel_rfl)
            have p4 := e4 d4
            have g49 : t[(49 : Nat)]? = some (vals 4) := hon 4 49 rfl
            obtain ⟨q, eq4⟩ := p4
            rw [eq4] at g49
            clear hoff hon hd
            refine wpOp_of rfl rfl ?_
            go_simp
            exact hK.out _ _ ⟨(hW), (updB_imp i6 (fun h1 h2 => by omega)), (updB_imp i9 (fun h1 h2 => by omega)), (h0), (h1), (h2), (h3), (e4), (fun _ => ⟨_, rfl⟩), (e6), (h7), (h8), (h9), (u9), (e20), (e21), (e22), (v22)⟩
          · intro hb hd hK
            have d5 := hd 5 (by kernel_rfl)
            have p5 := e5 d5
            have g50 : t[(50 : Nat)]? = some (vals 5) := hon 5 50 rfl
            obtain ⟨q, eq5⟩ := p5
            rw [eq5] at g50
            clear hoff hon hd
            refine wpOp_of rfl rfl ?_
            go_simp
            exact hK.out _ _ ⟨(hW), (updB_imp i6 (fun h1 h2 => by omega)), (updB_imp i9 (fun h1 h2 => by omega)), (h0), (h1), (h2), (h3), (e4), (e5), (fun _ => ⟨_, rfl⟩), (fun h _ => absurd (i6 7 (by omega) (by omega) (show b 7 = true from h)) (by rw [hb]; decide)), (fun h _ => absurd (i6 8 (by omega) (by omega) (show b 8 = true from h)) (by rw [hb]; decide)), (fun h _ => absurd (i6 9 (by omega) (by omega) (show b 9 = true from h)) (by rw [hb]; decide)), (fun h _ => absurd (i6 9 (by omega) (by omega) (show b 9 = true from h)) (by rw [hb]; decide)), (fun h _ => absurd (i6 20 (by omega) (by omega) (show b 20 = true from h)) (by rw [hb]; decide)), (e21), (e22), (v22)⟩
          · intro hb hd hK
            have dG := hd 6 (by kernel_rfl)
            obtain ⟨q, eG⟩ := e6 dG
            have gG : t[(51 : Nat)]? = some (.bool q) := (hon 6 51 rfl).trans (congrArg some eG)
            cases q with
            | false => exact wpOp_skipG 6 51 false true rfl rfl gG rfl (hK.out _ _ ⟨(hW), (updB_imp i6 (fun _ _ => dG)), (updB_imp i9 (fun h1 h2 => by omega)), (h0), (h1), (h2), (h3), (e4), (e5), (e6), (fun _ h6 => absurd (eG.symm.trans h6) (by intro h; cases h)), (h8), (h9), (u9), (e20), (e21), (e22), (v22)⟩)
            | true =>
              have g5 : t[(5 : Nat)]? = some (.int .i64 (0)) := hoff 5 _ rfl rfl
              clear hoff hon hd
              refine wpOp_wantG 6 51 true rfl rfl rfl gG ?_
              go_simp
              exact hK.out _ _ ⟨(hW), (updB_imp i6 (fun _ _ => dG)), (updB_imp i9 (fun h1 h2 => by omega)), (h0), (h1), (h2), (h3), (e4), (e5), (e6), (fun _ _ => rfl), (h8), (h9), (u9), (e20), (e21), (e22), (v22)⟩
          · intro hb hd hK
            have dG := hd 6 (by kernel_rfl)
            obtain ⟨q, eG⟩ := e6 dG
            have gG : t[(51 : Nat)]? = some (.bool q) := (hon 6 51 rfl).trans (congrArg some eG)
            cases q with
            | false => exact wpOp_skipG 6 51 false true rfl rfl gG rfl (hK.out _ _ ⟨(hW), (updB_imp i6 (fun _ _ => dG)), (updB_imp i9 (fun h1 h2 => by omega)), (h0), (h1), (h2), (h3), (e4), (e5), (e6), (h7), (fun _ h6 => absurd (eG.symm.trans h6) (by intro h; cases h)), (h9), (u9), (e20), (e21), (e22), (v22)⟩)
            | true =>
              have d7 := hd 7 (by kernel_rfl)
              have g52 : t[(52 : Nat)]? = some (.int .i64 (0)) := (hon 7 52 rfl).trans (congrArg some (h7 d7 eG))
              clear hoff hon hd
              refine wpOp_wantG 6 51 true rfl rfl rfl gG ?_
              go_simp
              exact hK.out _ _ ⟨(hW), (updB_imp i6 (fun _ _ => dG)), (updB_imp i9 (fun h1 h2 => by omega)), (h0), (h1), (h2), (h3), (e4), (e5), (e6), (h7), (fun _ _ => rfl), (h9), (u9), (e20), (e21), (e22), (v22)⟩
          · intro hb hd hK
            have dG := hd 6 (by kernel_rfl)
            obtain ⟨q, eG⟩ := e6 dG
            have gG : t[(51 : Nat)]? = some (.bool q) := (hon 6 51 rfl).trans (congrArg some eG)
            cases q with
            | false => exact wpOp_skipG 6 51 false true rfl rfl gG rfl (hK.out _ _ ⟨(hW), (updB_imp i6 (fun _ _ => dG)), (updB_imp i9 (fun h1 h2 => by omega)), (h0), (h1), (h2), (h3), (e4), (e5), (e6), (h7), (h8), (fun _ h6 => absurd (eG.symm.trans h6) (by intro h; cases h)), (fun _ _ => rfl), (e20), (e21), (e22), (v22)⟩)
            | true =>
              have d8 := hd 8 (by kernel_rfl)
              have g53 : t[(53 : Nat)]? = some (.bool true) := (hon 8 53 rfl).trans (congrArg some (h8 d8 eG))
              clear hoff hon hd
              refine wpOp_wantG 6 51 true rfl rfl rfl gG ?_
              go_simp
              exact hK.out _ _ ⟨(hW), (updB_imp i6 (fun _ _ => dG)), (updB_imp i9 (fun h1 h2 => by omega)), (h0), (h1), (h2), (h3), (e4), (e5), (e6), (h7), (h8), (fun _ _ => rfl), (fun _ h6 => absurd (eG.symm.trans h6) (by intro h; cases h)), (e20), (e21), (e22), (v22)⟩
          · intro hb hd hK
            have d9 := hd 9 (by kernel_rfl)
            have dG := i6 9 (by omega) (by omega) d9
            obtain ⟨q, eG⟩ := e6 dG
            cases q with
            | false => exact wpOp_skipU 9 54 false rfl rfl ((hon 9 54 rfl).trans (congrArg some (u9 d9 eG))) (hK.out _ _ ⟨(hW), (updB_imp i6 (fun _ _ => dG)), (updB_imp i9 (fun _ _ => d9)), (h0), (h1), (h2), (h3), (e4), (e5), (e6), (h7), (h8), (h9), (u9), (e20), (e21), (e22), (v22)⟩)
            | true =>
              have gG : t[(54 : Nat)]? = some (.bool true) := (hon 9 54 rfl).trans (congrArg some (h9 d9 eG))
              exact wpOp_skipG 9 54 true false rfl rfl gG rfl (hK.out _ _ ⟨(hW), (updB_imp i6 (fun _ _ => dG)), (updB_imp i9 (fun _ _ => d9)), (h0), (h1), (h2), (h3), (e4), (e5), (e6), (h7), (h8), (h9), (u9), (e20), (e21), (e22), (v22)⟩)
          · intro hb hd hK
            have d9 := hd 9 (by kernel_rfl)
            have dG := i6 9 (by omega) (by omega) d9
            obtain ⟨q, eG⟩ := e6 dG
            cases q with
            | false => exact wpOp_skipU 9 54 false rfl rfl ((hon 9 54 rfl).trans (congrArg some (u9 d9 eG))) (hK.out _ _ ⟨(hW), (updB_imp i6 (fun _ _ => dG)), (updB_imp i9 (fun _ _ => d9)), (h0), (h1), (h2), (h3), (e4), (e5), (e6), (h7), (h8), (h9), (u9), (e20), (e21), (e22), (v22)⟩)
            | true =>
              have gG : t[(54 : Nat)]? = some (.bool true) := (hon 9 54 rfl).trans (congrArg some (h9 d9 eG))
              exact wpOp_skipG 9 54 true false rfl rfl gG rfl (hK.out _ _ ⟨(hW), (updB_imp i6 (fun _ _ => dG)), (updB_imp i9 (fun _ _ => d9)), (h0), (h1), (h2), (h3), (e4), (e5), (e6), (h7), (h8), (h9), (u9), (e20), (e21), (e22), (v22)⟩)
          · intro hb hd hK
            have d9 := hd 9 (by kernel_rfl)
            have dG := i6 9 (by omega) (by omega) d9
            obtain ⟨q, eG⟩ := e6 dG
            cases q with
            | false => exact wpOp_skipU 9 54 false rfl rfl ((hon 9 54 rfl).trans (congrArg some (u9 d9 eG))) (hK.out _ _ ⟨(hW), (updB_imp i6 (fun _ _ => dG)), (updB_imp i9 (fun _ _ => d9)), (h0), (h1), (h2), (h3), (e4), (e5), (e6), (h7), (h8), (h9), (u9), (e20), (e21), (e22), (v22)⟩)
            | true =>
              have gG : t[(54 : Nat)]? = some (.bool true) := (hon 9 54 rfl).trans (congrArg some (h9 d9 eG))
              exact wpOp_skipG 9 54 true false rfl rfl gG rfl (hK.out _ _ ⟨(hW), (updB_imp i6 (fun _ _ => dG)), (updB_imp i9 (fun _ _ => d9)), (h0), (h1), (h2), (h3), (e4), (e5), (e6), (h7), (h8), (h9), (u9), (e20), (e21), (e22), (v22)⟩)
          · intro hb hd hK
            have d9 := hd 9 (by kernel_rfl)
            have dG := i6 9 (by omega) (by omega) d9
            obtain ⟨q, eG⟩ := e6 dG
            cases q with
            | false => exact wpOp_skipU 9 54 false rfl rfl ((hon 9 54 rfl).trans (congrArg some (u9 d9 eG))) (hK.out _ _ ⟨(hW), (updB_imp i6 (fun _ _ => dG)), (updB_imp i9 (fun _ _ => d9)), (h0), (h1), (h2), (h3), (e4), (e5), (e6), (h7), (h8), (h9), (u9), (e20), (e21), (e22), (v22)⟩)
            | true =>
              have gG : t[(54 : Nat)]? = some (.bool true) := (hon 9 54 rfl).trans (congrArg some (h9 d9 eG))
              exact wpOp_skipG 9 54 true false rfl rfl gG rfl (hK.out _ _ ⟨(hW), (updB_imp i6 (fun _ _ => dG)), (updB_imp i9 (fun _ _ => d9)), (h0), (h1), (h2), (h3), (e4), (e5), (e6), (h7), (h8), (h9), (u9), (e20), (e21), (e22), (v22)⟩)
          · intro hb hd hK
            have d9 := hd 9 (by kernel_rfl)
            have dG := i6 9 (by omega) (by omega) d9
            obtain ⟨q, eG⟩ := e6 dG
            cases q with
            | false => exact wpOp_skipU 9 54 false rfl rfl ((hon 9 54 rfl).trans (congrArg some (u9 d9 eG))) (hK.out _ _ ⟨(hW), (updB_imp i6 (fun _ _ => dG)), (updB_imp i9 (fun _ _ => d9)), (h0), (h1), (h2), (h3), (e4), (e5), (e6), (h7), (h8), (h9), (u9), (e20), (e21), (e22), (v22)⟩)
            | true =>
              have gG : t[(54 : Nat)]? = some (.bool true) := (hon 9 54 rfl).trans (congrArg some (h9 d9 eG))
              exact wpOp_skipG 9 54 true false rfl rfl gG rfl (hK.out _ _ ⟨(hW), (updB_imp i6 (fun _ _ => dG)), (updB_imp i9 (fun _ _ => d9)), (h0), (h1), (h2), (h3), (e4), (e5), (e6), (h7), (h8), (h9), (u9), (e20), (e21), (e22), (v22)⟩)
          · intro hb hd hK
            have d9 := hd 9 (by kernel_rfl)
            have dG := i6 9 (by omega) (by omega) d9
            obtain ⟨q, eG⟩ := e6 dG
            cases q with
            | false => exact wpOp_skipU 9 54 false rfl rfl ((hon 9 54 rfl).trans (congrArg some (u9 d9 eG))) (hK.out _ _ ⟨(hW), (updB_imp i6 (fun _ _ => dG)), (updB_imp i9 (fun _ _ => d9)), (h0), (h1), (h2), (h3), (e4), (e5), (e6), (h7), (h8), (h9), (u9), (e20), (e21), (e22), (v22)⟩)
            | true =>
              have gG : t[(54 : Nat)]? = some (.bool true) := (hon 9 54 rfl).trans (congrArg some (h9 d9 eG))
              exact wpOp_skipG 9 54 true false rfl rfl gG rfl (hK.out _ _ ⟨(hW), (updB_imp i6 (fun _ _ => dG)), (updB_imp i9 (fun _ _ => d9)), (h0), (h1), (h2), (h3), (e4), (e5), (e6), (h7), (h8), (h9), (u9), (e20), (e21), (e22), (v22)⟩)
          · intro hb hd hK
            have d9 := hd 9 (by kernel_rfl)
            have dG := i6 9 (by omega) (by omega) d9
            obtain ⟨q, eG⟩ := e6 dG
            cases q with
            | false => exact wpOp_skipU 9 54 false rfl rfl ((hon 9 54 rfl).trans (congrArg some (u9 d9 eG))) (hK.out _ _ ⟨(hW), (updB_imp i6 (fun _ _ => dG)), (updB_imp i9 (fun _ _ => d9)), (h0), (h1), (h2), (h3), (e4), (e5), (e6), (h7), (h8), (h9), (u9), (e20), (e21), (e22), (v22)⟩)
            | true =>
              have gG : t[(54 : Nat)]? = some (.bool true) := (hon 9 54 rfl).trans (congrArg some (h9 d9 eG))
              exact wpOp_skipG 9 54 true false rfl rfl gG rfl (hK.out _ _ ⟨(hW), (updB_imp i6 (fun _ _ => dG)), (updB_imp i9 (fun _ _ => d9)), (h0), (h1), (h2), (h3), (e4), (e5), (e6), (h7), (h8), (h9), (u9), (e20), (e21), (e22), (v22)⟩)
          · intro hb hd hK
            have d9 := hd 9 (by kernel_rfl)
            have dG := i6 9 (by omega) (by omega) d9
            obtain ⟨q, eG⟩ := e6 dG
            cases q with
            | false => exact wpOp_skipU 9 54 false rfl rfl ((hon 9 54 rfl).trans (congrArg some (u9 d9 eG))) (hK.out _ _ ⟨(hW), (updB_imp i6 (fun _ _ => dG)), (updB_imp i9 (fun _ _ => d9)), (h0), (h1), (h2), (h3), (e4), (e5), (e6), (h7), (h8), (h9), (u9), (e20), (e21), (e22), (v22)⟩)
            | true =>
              have gG : t[(54 : Nat)]? = some (.bool true) := (hon 9 54 rfl).trans (congrArg some (h9 d9 eG))
              exact wpOp_skipG 9 54 true false rfl rfl gG rfl (hK.out _ _ ⟨(hW), (updB_imp i6 (fun _ _ => dG)), (updB_imp i9 (fun _ _ => d9)), (h0), (h1), (h2), (h3), (e4), (e5), (e6), (h7), (h8), (h9), (u9), (e20), (e21), (e22), (v22)⟩)
          · intro hb hd hK
            have d9 := hd 9 (by kernel_rfl)
            have dG := i6 9 (by omega) (by omega) d9
            obtain ⟨q, eG⟩ := e6 dG
            cases q with
            | false => exact wpOp_skipU 9 54 false rfl rfl ((hon 9 54 rfl).trans (congrArg some (u9 d9 eG))) (hK.out _ _ ⟨(hW), (updB_imp i6 (fun _ _ => dG)), (updB_imp i9 (fun _ _ => d9)), (h0), (h1), (h2), (h3), (e4), (e5), (e6), (h7), (h8), (h9), (u9), (e20), (e21), (e22), (v22)⟩)
            | true =>
              have gG : t[(54 : Nat)]? = some (.bool true) := (hon 9 54 rfl).trans (congrArg some (h9 d9 eG))
              exact wpOp_skipG 9 54 true false rfl rfl gG rfl (hK.out _ _ ⟨(hW), (updB_imp i6 (fun _ _ => dG)), (updB_imp i9 (fun _ _ => d9)), (h0), (h1), (h2), (h3), (e4), (e5), (e6), (h7), (h8), (h9), (u9), (e20), (e21), (e22), (v22)⟩)
          · intro hb hd hK
            have d9 := hd 9 (by kernel_rfl)
            have dG := i6 9 (by omega) (by omega) d9
            obtain ⟨q, eG⟩ := e6 dG
            cases q with
            | false => exact wpOp_skipU 9 54 false rfl rfl ((hon 9 54 rfl).trans (congrArg some (u9 d9 eG))) (hK.out _ _ ⟨(hW), (updB_imp i6 (fun _ _ => dG)), (updB_imp i9 (fun _ _ => d9)), (h0), (h1), (h2), (h3), (e4), (e5), (e6), (h7), (h8), (h9), (u9), (e20), (e21), (e22), (v22)⟩)
            | true =>
              have gG : t[(54 : Nat)]? = some (.bool true) := (hon 9 54 rfl).trans (congrArg some (h9 d9 eG))
              exact wpOp_skipG 9 54 true false rfl rfl gG rfl (hK.out _ _ ⟨(hW), (updB_imp i6 (fun _ _ => dG)), (updB_imp i9 (fun _ _ => d9)), (h0), (h1), (h2), (h3), (e4), (e5), (e6), (h7), (h8), (h9), (u9), (e20), (e21), (e22), (v22)⟩)
          · intro hb hd hK
            have dG := hd 6 (by kernel_rfl)
            have d6 := dG
            have d9 := hd 9 (by kernel_rfl)
            have d19 := hd 19 (by kernel_rfl)
            obtain ⟨q, eG⟩ := e6 dG
            have gG : t[(51 : Nat)]? = some (.bool q) := (hon 6 51 rfl).trans (congrArg some eG)
            cases q with
            | false => exact wpOp_skipG 6 51 false true rfl rfl gG rfl (hK.out _ _ ⟨(hW), (updB_imp i6 (fun _ _ => d6)), (updB_imp i9 (fun h1 h2 => by omega)), (h0), (h1), (h2), (h3), (e4), (e5), (e6), (h7), (h8), (h9), (u9), (fun _ h6 => absurd (eG.symm.trans h6) (by intro h; cases h)), (e21), (e22), (v22)⟩)
            | true =>
              have g54 : t[(54 : Nat)]? = some (.bool true) := (hon 9 54 rfl).trans (congrArg some (h9 d9 eG))
              have g64 : t[(64 : Nat)]? = some (vals 19) := hon 19 64 rfl
              clear hoff hon hd
              refine wpOp_wantG 6 51 true rfl rfl rfl gG ?_
              go_simp
              exact hK.out _ _ ⟨(hW), (updB_imp i6 (fun _ _ => d6)), (updB_imp i9 (fun h1 h2 => by omega)), (h0), (h1), (h2), (h3), (e4), (e5), (e6), (h7), (h8), (h9), (u9), (fun _ _ => ⟨_, rfl⟩), (e21), (e22), (v22)⟩
          · intro hb hd hK
            have d6 := hd 6 (by kernel_rfl)
            have d20 := hd 20 (by kernel_rfl)
            obtain ⟨q, eq⟩ := e6 d6
            have g51 : t[(51 : Nat)]? = some (.bool q) := (hon 6 51 rfl).trans (congrArg some eq)
            have gv : t[(65 : Nat)]? = some (vals 20) := hon 20 65 rfl
            cases q with
            | false =>
              clear hoff hon hd
              refine wpOp_of rfl rfl ?_
              go_simp
              exact hK.out _ _ ⟨(hW), (updB_imp i6 (fun h1 h2 => by omega)), (updB_imp i9 (fun h1 h2 => by omega)), (h0), (h1), (h2), (h3), (e4), (e5), (e6), (h7), (h8), (h9), (u9), (e20), (fun _ => ⟨_, rfl⟩), (e22), (v22)⟩
            | true =>
              obtain ⟨q2, eq2⟩ := e20 d20 eq
              rw [eq2] at gv
              clear hoff hon hd
              refine wpOp_of rfl rfl ?_
              go_simp
              exact hK.out _ _ ⟨(hW), (updB_imp i6 (fun h1 h2 => by omega)), (updB_imp i9 (fun h1 h2 => by omega)), (h0), (h1), (h2), (h3), (e4), (e5), (e6), (h7), (h8), (h9), (u9), (e20), (fun _ => ⟨_, rfl⟩), (e22), (v22)⟩
          · intro hb hd hK
            have d21 := hd 21 (by kernel_rfl)
            have p21 := e21 d21
            have g66 : t[(66 : Nat)]? = some (vals 21) := hon 21 66 rfl
            obtain ⟨q, eq21⟩ := p21
            rw [eq21] at g66
            clear hoff hon
            refine wpOp_of rfl rfl ?_
            go_simp
            exact hK.out _ _ ⟨(hW), (updB_imp i6 (fun h1 h2 => by omega)), (updB_imp i9 (fun h1 h2 => by omega)), (h0), (h1), (h2), (h3), (e4), (e5), (e6), (h7), (h8), (h9), (u9), (e20), (e21), (fun _ => ⟨_, rfl⟩), (fun h => absurd (show b 0 = false from h) (by rw [hd 0 (by kernel_rfl)]; decide))⟩
        · intro bq vals wi hR hall
          obtain ⟨hW, i6, i9, h0, h1, h2, h3, e4, e5, e6, h7, h8, h9, u9, e20, e21, e22, v22⟩ := hR
          obtain ⟨ok2, e22⟩ := e22 (hall 22 (by decide))
          dsimp only [over]
          rw [e22]
          have hM4 := hkeep hW HM3.out
          have hB4 := hB3.trans (hW.mono hB3.size)
          clear v22 h0 h1 h2 h3 h7 h8 h9 e4 e5 e6 e20 e21 e22 i6 i9 u9 hall hW
          go_wp2
          go_roundw
          case rel => exact ⟨0 + 1, ok2, rfl, by go_num, by omega, hM4, hB4⟩
          case measure => simp [intOf]; omega
      obtain ⟨j, hkj⟩ : ∃ j, k = j + 1 := ⟨k - 1, by omega⟩
      obtain ⟨p, hpk⟩ : ∃ x, m.hs[j]? = some x := ⟨_, List.getElem?_eq_getElem (by rw [HHl.out]; omega)⟩
      obtain ⟨pid, hpid⟩ : ∃ y, y = p.id := ⟨_, rfl⟩
      have HPI : Hid (∀ W, Below W3.heap.size W3 W → W.cell? ⟨G, off + j * 14, none⟩ = some (.int .i64 pid)) := fun W hW => by rw [hpid]; exact SlR.cells (HSL.out.below hW (Nat.le_refl _)) hpk 0 _ rfl
      have wkm : IntKind.i64.wrap ((k : Int) - 1) = (j : Int) := by rw [IntKind.wrap_i64]; omega
      have hjI : (j : Int) < (m.hn : Int) := by omega
      have hk1 : ((k : Int) == 0) = false := by simp; omega
      clear hpk hpid hkj hk0
      refine wp_region_fun0 ([none, none, none, none, some 22, none, none, none, none, none, none, none, none, none, none, none, none, none, none, none, none, none, none, none, none, none, none, none, none, none, none, none, none, none, none, none, none, none, none, none, none, none, none, none, none, some 0, some 1, some 2, some 3, some 4, some 5, some 6, some 7, some 8, some 9, some 10, some 11, some 12, some 13, some 14, some 15, some 16, some 17, some 18, some 19, some 20, some 21, none, none, none]) (fun (b : Nat → Bool) (vals : Nat → Value) (W : World) => Below W3.heap.size W3 W ∧ (∀ j, 7 ≤ j → j ≤ 20 → b j = true → b 6 = true) ∧ (∀ j, 10 ≤ j → j ≤ 19 → b j = true → b 9 = true) ∧ (b 0 = true → vals 0 = .bool true) ∧ (b 1 = true → vals 1 = .bool true) ∧ (b 2 = true → vals 2 = .agg #[.int .i64 m.cf.clear, .int .i64 m.cf.climb, .int .i64 m.cf.height, .int .i64 m.cf.rise, .int .i64 m.cf.run, .int .i64 m.cf.w, .int .i64 m.cf.d, .slice m.ta m.tn m.tc, .slice m.ra m.rn m.rc, .slice m.da m.dn m.dc, .slice (some ⟨G, off, none⟩) m.hn m.hc]) ∧ (b 3 = true → vals 3 = .agg #[.int .i64 hid, .int .i64 hftile, .int .i64 hfrect, .int .i64 hfx, .int .i64 hfz, .int .i64 hfy, .int .i64 httile, .int .i64 htrect, .int .i64 htx, .int .i64 htz, .int .i64 hty, .bool hbo, .int .i64 hac, .int .i64 hco]) ∧ (b 4 = true → ∃ q : Bool, vals 4 = .bool q) ∧ (b 5 = true → ∃ q : Bool, vals 5 = .bool q) ∧ (b 6 = true → ∃ q : Bool, vals 6 = .bool q) ∧ (b 7 = true → vals 6 = .bool true → vals 7 = .int .i64 ((k : Nat))) ∧ (b 8 = true → vals 6 = .bool true → vals 8 = .bool false) ∧ (b 9 = true → vals 6 = .bool true → vals 9 = .bool false) ∧ (b 9 = true → vals 6 = .bool false → vals 9 = undef) ∧ (b 10 = true → vals 6 = .bool true → vals 10 = .pointer (some ⟨S0, 10, none⟩)) ∧ (b 11 = true → vals 6 = .bool true → vals 11 = .slice (some ⟨G, off, none⟩) m.hn m.hc) ∧ (b 12 = true → vals 6 = .bool true → vals 12 = .int .i64 (k : Nat)) ∧ (b 13 = true → vals 6 = .bool true → vals 13 = .int .i64 (j : Nat)) ∧ (b 14 = true → vals 6 = .bool true → vals 14 = .pointer (some ⟨G, off + j * 14, none⟩)) ∧ (b 15 = true → vals 6 = .bool true → vals 15 = .pointer (some ⟨G, off + j * 14, none⟩)) ∧ (b 16 = true → vals 6 = .bool true → vals 16 = .int .i64 pid) ∧ (b 17 = true → vals 6 = .bool true → vals 17 = .pointer (some ⟨S3, 0, none⟩)) ∧ (b 18 = true → vals 6 = .bool true → vals 18 = .int .i64 hid) ∧ (b 19 = true → vals 6 = .bool true → ∃ q : Bool, vals 19 = .bool q) ∧ (b 20 = true → vals 6 = .bool true → ∃ q : Bool, vals 20 = .bool q) ∧ (b 21 = true → ∃ q : Bool, vals 21 = .bool q) ∧ (b 22 = true → ∃ q : Bool, vals 22 = .bool q) ∧ (b 0 = false → vals 22 = .bool true)) (by kernel_rfl) (by kernel_rfl) (by kernel_rfl) (by kernel_rfl) ?_ ?_ ?_
      · intro vals hv0
        exact ⟨(Below.refl _ _).drew, (fun j _ _ h => by cases (show false = true from h)), (fun j _ _ h => by cases (show false = true from h)), (fun h => by cases (show false = true from h)), (fun h => by cases (show false = true from h)), (fun h => by cases (show false = true from h)), (fun h => by cases (show false = true from h)), (fun h => by cases (show false = true from h)), (fun h => by cases (show false = true from h)), (fun h => by cases (show false = true from h)), (fun h => by cases (show false = true from h)), (fun h => by cases (show false = true from h)), (fun h => by cases (show false = true from h)), (fun h => by cases (show false = true from h)), (fun h => by cases (show false = true from h)), (fun h => by cases (show false = true from h)), (fun h => by cases (show false = true from h)), (fun h => by cases (show false = true from h)), (fun h => by cases (show false = true from h)), (fun h => by cases (show false = true from h)), (fun h => by cases (show false = true from h)), (fun h => by cases (show false = true from h)), (fun h => by cases (show false = true from h)), (fun h => by cases (show false = true from h)), (fun h => by cases (show false = true from h)), (fun h => by cases (show false = true from h)), (fun h => by cases (show false = true from h)), (fun _ => (Option.some.inj (show some (.bool true) = some (vals 22) from hv0 22 4 rfl)).symm)⟩
      · intro Q' K t b vals wi hoff hon i hlt hR hb hd hK
        have hlt : i < 23 := hlt
        obtain ⟨hW, i6, i9, h0, h1, h2, h3, e4, e5, e6, h7, h8, h9, u9, h10, h11, h12, h13, h14, h15, h16, h17, h18, e19, e20, e21, e22, v22⟩ := hR
        revert hb hd hK
        cases i, hlt using cas23
        · intro hb hd hK
          have g4 : t[(4 : Nat)]? = some (.bool true) := (hon 22 4 rfl).trans (congrArg some (v22 hb))
          clear hoff hon hd
          refine wpOp_of rfl rfl ?_
          go_simp
          exact hK.out _ _ ⟨(hW), (updB_imp i6 (fun h1 h2 => by omega)), (updB_imp i9 (fun h1 h2 => by omega)), (fun _ => rfl), (h1), (h2), (h3), (e4), (e5), (e6), (h7), (h8), (h9), (u9), (h10), (h11), (h12), (h13), (h14), (h15), (h16), (h17), (h18), (e19), (e20), (e21), (e22), (fun h => by cases (show true = false from h))⟩
        · intro hb hd hK
          have d0 := hd 0 (by kernel_rfl)
          have g45 : t[(45 : Nat)]? = some (.bool true) := (hon 0 45 rfl).trans (congrArg some (h0 d0))
          clear hoff hon hd
          refine wpOp_of rfl rfl ?_
          go_simp
          exact hK.out _ _ ⟨(hW), (updB_imp i6 (fun h1 h2 => by omega)), (updB_imp i9 (fun h1 h2 => by omega)), (h0), (fun _ => rfl), (h2), (h3), (e4), (e5), (e6), (h7), (h8), (h9), (u9), (h10), (h11), (h12), (h13), (h14), (h15), (h16), (h17), (h18), (e19), (e20), (e21), (e22), (v22)⟩
        · intro hb hd hK
          have dG := hd 1 (by kernel_rfl)
          have gG : t[(46 : Nat)]? = some (.bool true) := (hon 1 46 rfl).trans (congrArg some (h1 dG))
          have g1 : t[(1 : Nat)]? = some (.pointer (some ⟨S0, 0, none⟩)) := hoff 1 _ rfl rfl
          have hC := hkeep hW HM3.out
          have c0 := hcell (k := 0) (v := .int .i64 m.cf.clear) hC rfl
          have c1 := hcell (k := 1) (v := .int .i64 m.cf.climb) hC rfl
          have c2 := hcell (k := 2) (v := .int .i64 m.cf.height) hC rfl
          have c3 := hcell (k := 3) (v := .int .i64 m.cf.rise) hC rfl
          have c4 := hcell (k := 4) (v := .int .i64 m.cf.run) hC rfl
          have c5 := hcell (k := 5) (v := .int .i64 m.cf.w) hC rfl
          have c6 := hcell (k := 6) (v := .int .i64 m.cf.d) hC rfl
          have c7 := hcell (k := 7) (v := .slice m.ta m.tn m.tc) hC rfl
          have c8 := hcell (k := 8) (v := .slice m.ra m.rn m.rc) hC rfl
          have c9 := hcell (k := 9) (v := .slice m.da m.dn m.dc) hC rfl
          have c10 := hcell (k := 10) (v := .slice (some ⟨G, off, none⟩) m.hn m.hc) hC rfl
          clear hoff hon hd
          refine wpOp_wantG 1 46 true rfl rfl rfl gG ?_
          go_simp
          exact hK.out _ _ ⟨(hW), (updB_imp i6 (fun h1 h2 => by omega)), (updB_imp i9 (fun h1 h2 => by omega)), (h0), (h1), (fun _ => rfl), (h3), (e4), (e5), (e6), (h7), (h8), (h9), (u9), (h10), (h11), (h12), (h13), (h14), (h15), (h16), (h17), (h18), (e19), (e20), (e21), (e22), (v22)⟩
        · intro hb hd hK
          have dG := hd 1 (by kernel_rfl)
          have gG : t[(46 : Nat)]? = some (.bool true) := (hon 1 46 rfl).trans (congrArg some (h1 dG))
          have g6 : t[(6 : Nat)]? = some (.pointer (some ⟨S3, 0, none⟩)) := hoff 6 _ rfl rfl
          have hC := hkeep hW HH3.out
          have c0 := hcell (k := 0) (v := .int .i64 hid) hC rfl
          have c1 := hcell (k := 1) (v := .int .i64 hftile) hC rfl
          have c2 := hcell (k := 2) (v := .int .i64 hfrect) hC rfl
          have c3 := hcell (k := 3) (v := .int .i64 hfx) hC rfl
          have c4 := hcell (k := 4) (v := .int .i64 hfz) hC rfl
          have c5 := hcell (k := 5) (v := .int .i64 hfy) hC rfl
          have c6 := hcell (k := 6) (v := .int .i64 httile) hC rfl
          have c7 := hcell (k := 7) (v := .int .i64 htrect) hC rfl
          have c8 := hcell (k := 8) (v := .int .i64 htx) hC rfl
          have c9 := hcell (k := 9) (v := .int .i64 htz) hC rfl
          have c10 := hcell (k := 10) (v := .int .i64 hty) hC rfl
          have c11 := hcell (k := 11) (v := .bool hbo) hC rfl
          have c12 := hcell (k := 12) (v := .int .i64 hac) hC rfl
          have c13 := hcell (k := 13) (v := .int .i64 hco) hC rfl
          clear hoff hon hd
          refine wpOp_wantG 1 46 true rfl rfl rfl gG ?_
          go_simp
          exact hK.out _ _ ⟨(hW), (updB_imp i6 (fun h1 h2 => by omega)), (updB_imp i9 (fun h1 h2 => by omega)), (h0), (h1), (h2), (fun _ => rfl), (e4), (e5), (e6), (h7), (h8), (h9), (u9), (h10), (h11), (h12), (h13), (h14), (h15), (h16), (h17), (h18), (e19), (e20), (e21), (e22), (v22)⟩
        · intro hb hd hK
          have dG := hd 1 (by kernel_rfl)
          have gG : t[(46 : Nat)]? = some (.bool true) := (hon 1 46 rfl).trans (congrArg some (h1 dG))
          have d2 := hd 2 (by kernel_rfl)
          have g47 : t[(47 : Nat)]? = some (.agg #[.int .i64 m.cf.clear, .int .i64 m.cf.climb, .int .i64 m.cf.height, .int .i64 m.cf.rise, .int .i64 m.cf.run, .int .i64 m.cf.w, .int .i64 m.cf.d, .slice m.ta m.tn m.tc, .slice m.ra m.rn m.rc, .slice m.da m.dn m.dc, .slice (some ⟨G, off, none⟩) m.hn m.hc]) := (hon 2 47 rfl).trans (congrArg some (h2 d2))
          have d3 := hd 3 (by kernel_rfl)
          have g48 : t[(48 : Nat)]? = some (.agg #[.int .i64 hid, .int .i64 hftile, .int .i64 hfrect, .int .i64 hfx, .int .i64 hfz, .int .i64 hfy, .int .i64 httile, .int .i64 htrect, .int .i64 htx, .int .i64 htz, .int .i64 hty, .bool hbo, .int .i64 hac, .int .i64 hco]) := (hon 3 48 rfl).trans (congrArg some (h3 d3))
          clear hoff hon hd
          refine wpOp_wantG 1 46 true rfl rfl rfl gG ?_
          go_simp
          go_at_call 85
          refine (ST2.out _ (hB3.trans (hW.mono hB3.size))).mono ?_
          rintro e wz ⟨⟨q, rfl⟩, hbz⟩
          (try go_simp)
          exact hK.out _ _ ⟨(hW.trans (hbz.mono hW.size)), (updB_imp i6 (fun h1 h2 => by omega)), (updB_imp i9 (fun h1 h2 => by omega)), (h0), (h1), (h2), (h3), (fun _ => ⟨_, rfl⟩), (e5), (e6), (h7), (h8), (h9), (u9), (h10), (h11), (h12), (h13), (h14), (h15), (h16), (h17), (h18), (e19), (e20), (e21), (e22), (v22)⟩
        · intro hb hd hK
          have d1 := hd 1 (by kernel_rfl)
          have g46 : t[(46 : Nat)]? = some (.bool true) := (hon 1 46 rfl).trans (congrArg some (h1 d1))
          have d4 := hd 4 (by kernel_rfl)
          have p4 := e4 d4
          have g49 : t[(49 : Nat)]? = some (vals 4) := hon 4 49 rfl
          obtain ⟨q, eq4⟩ := p4
          rw [eq4] at g49
          clear hoff hon hd
          refine wpOp_of rfl rfl ?_
          go_simp
          exact hK.out _ _ ⟨(hW), (updB_imp i6 (fun h1 h2 => by omega)), (updB_imp i9 (fun h1 h2 => by omega)), (h0), (h1), (h2), (h3), (e4), (fun _ => ⟨_, rfl⟩), (e6), (h7), (h8), (h9), (u9), (h10), (h11), (h12), (h13), (h14), (h15), (h16), (h17), (h18), (e19), (e20), (e21), (e22), (v22)⟩
        · intro hb hd hK
          have d5 := hd 5 (by kernel_rfl)
          have p5 := e5 d5
          have g50 : t[(50 : Nat)]? = some (vals 5) := hon 5 50 rfl
          obtain ⟨q, eq5⟩ := p5
          rw [eq5] at g50
          clear hoff hon hd
          refine wpOp_of rfl rfl ?_
          go_simp
          exact hK.out _ _ ⟨(hW), (updB_imp i6 (fun h1 h2 => by omega)), (updB_imp i9 (fun h1 h2 => by omega)), (h0), (h1), (h2), (h3), (e4), (e5), (fun _ => ⟨_, rfl⟩), (fun h _ => absurd (i6 7 (by omega) (by omega) (show b 7 = true from h)) (by rw [hb]; decide)), (fun h _ => absurd (i6 8 (by omega) (by omega) (show b 8 = true from h)) (by rw [hb]; decide)), (fun h _ => absurd (i6 9 (by omega) (by omega) (show b 9 = true from h)) (by rw [hb]; decide)), (fun h _ => absurd (i6 9 (by omega) (by omega) (show b 9 = true from h)) (by rw [hb]; decide)), (fun h _ => absurd (i6 10 (by omega) (by omega) (show b 10 = true from h)) (by rw [hb]; decide)), (fun h _ => absurd (i6 11 (by omega) (by omega) (show b 11 = true from h)) (by rw [hb]; decide)), (fun h _ => absurd (i6 12 (by omega) (by omega) (show b 12 = true from h)) (by rw [hb]; decide)), (fun h _ => absurd (i6 13 (by omega) (by omega) (show b 13 = true from h)) (by rw [hb]; decide)), (fun h _ => absurd (i6 14 (by omega) (by omega) (show b 14 = true from h)) (by rw [hb]; decide)), (fun h _ => absurd (i6 15 (by omega) (by omega) (show b 15 = true from h)) (by rw [hb]; decide)), (fun h _ => absurd (i6 16 (by omega) (by omega) (show b 16 = true from h)) (by rw [hb]; decide)), (fun h _ => absurd (i6 17 (by omega) (by omega) (show b 17 = true from h)) (by rw [hb]; decide)), (fun h _ => absurd (i6 18 (by omega) (by omega) (show b 18 = true from h)) (by rw [hb]; decide)), (fun h _ => absurd (i6 19 (by omega) (by omega) (show b 19 = true from h)) (by rw [hb]; decide)), (fun h _ => absurd (i6 20 (by omega) (by omega) (show b 20 = true from h)) (by rw [hb]; decide)), (e21), (e22), (v22)⟩
        · intro hb hd hK
          have dG := hd 6 (by kernel_rfl)
          obtain ⟨q, eG⟩ := e6 dG
          have gG : t[(51 : Nat)]? = some (.bool q) := (hon 6 51 rfl).trans (congrArg some eG)
          cases q with
          | false => exact wpOp_skipG 6 51 false true rfl rfl gG rfl (hK.out _ _ ⟨(hW), (updB_imp i6 (fun _ _ => dG)), (updB_imp i9 (fun h1 h2 => by omega)), (h0), (h1), (h2), (h3), (e4), (e5), (e6), (fun _ h6 => absurd (eG.symm.trans h6) (by intro h; cases h)), (h8), (h9), (u9), (h10), (h11), (h12), (h13), (h14), (h15), (h16), (h17), (h18), (e19), (e20), (e21), (e22), (v22)⟩)
          | true =>
            have g5 : t[(5 : Nat)]? = some (.int .i64 ((k : Nat))) := hoff 5 _ rfl rfl
            clear hoff hon hd
            refine wpOp_wantG 6 51 true rfl rfl rfl gG ?_
            go_simp
            exact hK.out _ _ ⟨(hW), (updB_imp i6 (fun _ _ => dG)), (updB_imp i9 (fun h1 h2 => by omega)), (h0), (h1), (h2), (h3), (e4), (e5), (e6), (fun _ _ => rfl), (h8), (h9), (u9), (h10), (h11), (h12), (h13), (h14), (h15), (h16), (h17), (h18), (e19), (e20), (e21), (e22), (v22)⟩
        · intro hb hd hK
          have dG := hd 6 (by kernel_rfl)
          obtain ⟨q, eG⟩ := e6 dG
          have gG : t[(51 : Nat)]? = some (.bool q) := (hon 6 51 rfl).trans (congrArg some eG)
          cases q with
          | false => exact wpOp_skipG 6 51 false true rfl rfl gG rfl (hK.out _ _ ⟨(hW), (updB_imp i6 (fun _ _ => dG)), (updB_imp i9 (fun h1 h2 => by omega)), (h0), (h1), (h2), (h3), (e4), (e5), (e6), (h7), (fun _ h6 => absurd (eG.symm.trans h6) (by intro h; cases h)), (h9), (u9), (h10), (h11), (h12), (h13), (h14), (h15), (h16), (h17), (h18), (e19), (e20), (e21), (e22), (v22)⟩)
          | true =>
            have d7 := hd 7 (by kernel_rfl)
            have g52 : t[(52 : Nat)]? = some (.int .i64 ((k : Nat))) := (hon 7 52 rfl).trans (congrArg some (h7 d7 eG))
            clear hoff hon hd
            refine wpOp_wantG 6 51 true rfl rfl rfl gG ?_
            go_simp
            exact hK.out _ _ ⟨(hW), (updB_imp i6 (fun _ _ => dG)), (updB_imp i9 (fun h1 h2 => by omega)), (h0), (h1), (h2), (h3), (e4), (e5), (e6), (h7), (fun _ _ => rfl), (h9), (u9), (h10), (h11), (h12), (h13), (h14), (h15), (h16), (h17), (h18), (e19), (e20), (e21), (e22), (v22)⟩
        · intro hb hd hK
          have dG := hd 6 (by kernel_rfl)
          obtain ⟨q, eG⟩ := e6 dG
          have gG : t[(51 : Nat)]? = some (.bool q) := (hon 6 51 rfl).trans (congrArg some eG)
          cases q with
          | false => exact wpOp_skipG 6 51 false true rfl rfl gG rfl (hK.out _ _ ⟨(hW), (updB_imp i6 (fun _ _ => dG)), (updB_imp i9 (fun h1 h2 => by omega)), (h0), (h1), (h2), (h3), (e4), (e5), (e6), (h7), (h8), (fun _ h6 => absurd (eG.symm.trans h6) (by intro h; cases h)), (fun _ _ => rfl), (h10), (h11), (h12), (h13), (h14), (h15), (h16), (h17), (h18), (e19), (e20), (e21), (e22), (v22)⟩)
          | true =>
            have d8 := hd 8 (by kernel_rfl)
            have g53 : t[(53 : Nat)]? = some (.bool false) := (hon 8 53 rfl).trans (congrArg some (h8 d8 eG))
            clear hoff hon hd
            refine wpOp_wantG 6 51 true rfl rfl rfl gG ?_
            go_simp
            exact hK.out _ _ ⟨(hW), (updB_imp i6 (fun _ _ => dG)), (updB_imp i9 (fun h1 h2 => by omega)), (h0), (h1), (h2), (h3), (e4), (e5), (e6), (h7), (h8), (fun _ _ => rfl), (fun _ h6 => absurd (eG.symm.trans h6) (by intro h; cases h)), (h10), (h11), (h12), (h13), (h14), (h15), (h16), (h17), (h18), (e19), (e20), (e21), (e22), (v22)⟩
        · intro hb hd hK
          have d9 := hd 9 (by kernel_rfl)
          have dG := i6 9 (by omega) (by omega) d9
          obtain ⟨q, eG⟩ := e6 dG
          cases q with
          | false => exact wpOp_skipU 9 54 false rfl rfl ((hon 9 54 rfl).trans (congrArg some (u9 d9 eG))) (hK.out _ _ ⟨(hW), (updB_imp i6 (fun _ _ => dG)), (updB_imp i9 (fun _ _ => d9)), (h0), (h1), (h2), (h3), (e4), (e5), (e6), (h7), (h8), (h9), (u9), (fun _ h6 => absurd (eG.symm.trans h6) (by intro h; cases h)), (h11), (h12), (h13), (h14), (h15), (h16), (h17), (h18), (e19), (e20), (e21), (e22), (v22)⟩)
          | true =>
            have gG : t[(54 : Nat)]? = some (.bool false) := (hon 9 54 rfl).trans (congrArg some (h9 d9 eG))
            have g1 : t[(1 : Nat)]? = some (.pointer (some ⟨S0, 0, none⟩)) := hoff 1 _ rfl rfl
            clear hoff hon hd
            refine wpOp_wantG 9 54 false rfl rfl rfl gG ?_
            go_simp
            exact hK.out _ _ ⟨(hW), (updB_imp i6 (fun _ _ => dG)), (updB_imp i9 (fun _ _ => d9)), (h0), (h1), (h2), (h3), (e4), (e5), (e6), (h7), (h8), (h9), (u9), (fun _ _ => rfl), (h11), (h12), (h13), (h14), (h15), (h16), (h17), (h18), (e19), (e20), (e21), (e22), (v22)⟩
        · intro hb hd hK
          have d9 := hd 9 (by kernel_rfl)
          have dG := i6 9 (by omega) (by omega) d9
          obtain ⟨q, eG⟩ := e6 dG
          cases q with
          | false => exact wpOp_skipU 9 54 false rfl rfl ((hon 9 54 rfl).trans (congrArg some (u9 d9 eG))) (hK.out _ _ ⟨(hW), (updB_imp i6 (fun _ _ => dG)), (updB_imp i9 (fun _ _ => d9)), (h0), (h1), (h2), (h3), (e4), (e5), (e6), (h7), (h8), (h9), (u9), (h10), (fun _ h6 => absurd (eG.symm.trans h6) (by intro h; cases h)), (h12), (h13), (h14), (h15), (h16), (h17), (h18), (e19), (e20), (e21), (e22), (v22)⟩)
          | true =>
            have gG : t[(54 : Nat)]? = some (.bool false) := (hon 9 54 rfl).trans (congrArg some (h9 d9 eG))
            have d10 := hd 10 (by kernel_rfl)
            have g55 : t[(55 : Nat)]? = some (.pointer (some ⟨S0, 10, none⟩)) := (hon 10 55 rfl).trans (congrArg some (h10 d10 eG))
            have c0 := hcell (k := 10) (v := .slice (some ⟨G, off, none⟩) m.hn m.hc) (hkeep hW HM3.out) rfl
            clear hoff hon hd
            refine wpOp_wantG 9 54 false rfl rfl rfl gG ?_
            go_simp
            exact hK.out _ _ ⟨(hW), (updB_imp i6 (fun _ _ => dG)), (updB_imp i9 (fun _ _ => d9)), (h0), (h1), (h2), (h3), (e4), (e5), (e6), (h7), (h8), (h9), (u9), (h10), (fun _ _ => rfl), (h12), (h13), (h14), (h15), (h16), (h17), (h18), (e19), (e20), (e21), (e22), (v22)⟩
        · intro hb hd hK
          have d9 := hd 9 (by kernel_rfl)
          have dG := i6 9 (by omega) (by omega) d9
          obtain ⟨q, eG⟩ := e6 dG
          cases q with
          | false => exact wpOp_skipU 9 54 false rfl rfl ((hon 9 54 rfl).trans (congrArg some (u9 d9 eG))) (hK.out _ _ ⟨(hW), (updB_imp i6 (fun _ _ => dG)), (updB_imp i9 (fun _ _ => d9)), (h0), (h1), (h2), (h3), (e4), (e5), (e6), (h7), (h8), (h9), (u9), (h10), (h11), (fun _ h6 => absurd (eG.symm.trans h6) (by intro h; cases h)), (h13), (h14), (h15), (h16), (h17), (h18), (e19), (e20), (e21), (e22), (v22)⟩)
          | true =>
            have gG : t[(54 : Nat)]? = some (.bool false) := (hon 9 54 rfl).trans (congrArg some (h9 d9 eG))
            have g5 : t[(5 : Nat)]? = some (.int .i64 ((k : Nat))) := hoff 5 _ rfl rfl
            clear hoff hon hd
            refine wpOp_wantG 9 54 false rfl rfl rfl gG ?_
            go_simp
            exact hK.out _ _ ⟨(hW), (updB_imp i6 (fun _ _ => dG)), (updB_imp i9 (fun _ _ => d9)), (h0), (h1), (h2), (h3), (e4), (e5), (e6), (h7), (h8), (h9), (u9), (h10), (h11), (fun _ _ => rfl), (h13), (h14), (h15), (h16), (h17), (h18), (e19), (e20), (e21), (e22), (v22)⟩
        · intro hb hd hK
          have d9 := hd 9 (by kernel_rfl)
          have dG := i6 9 (by omega) (by omega) d9
          obtain ⟨q, eG⟩ := e6 dG
          cases q with
          | false => exact wpOp_skipU 9 54 false rfl rfl ((hon 9 54 rfl).trans (congrArg some (u9 d9 eG))) (hK.out _ _ ⟨(hW), (updB_imp i6 (fun _ _ => dG)), (updB_imp i9 (fun _ _ => d9)), (h0), (h1), (h2), (h3), (e4), (e5), (e6), (h7), (h8), (h9), (u9), (h10), (h11), (h12), (fun _ h6 => absurd (eG.symm.trans h6) (by intro h; cases h)), (h14), (h15), (h16), (h17), (h18), (e19), (e20), (e21), (e22), (v22)⟩)
          | true =>
            have gG : t[(54 : Nat)]? = some (.bool false) := (hon 9 54 rfl).trans (congrArg some (h9 d9 eG))
            have d12 := hd 12 (by kernel_rfl)
            have g57 : t[(57 : Nat)]? = some (.int .i64 (k : Nat)) := (hon 12 57 rfl).trans (congrArg some (h12 d12 eG))
            clear hoff hon hd
            refine wpOp_wantG 9 54 false rfl rfl rfl gG ?_
            go_simp
            exact hK.out _ _ ⟨(hW), (updB_imp i6 (fun _ _ => dG)), (updB_imp i9 (fun _ _ => d9)), (h0), (h1), (h2), (h3), (e4), (e5), (e6), (h7), (h8), (h9), (u9), (h10), (h11), (h12), (fun _ _ => rfl), (h14), (h15), (h16), (h17), (h18), (e19), (e20), (e21), (e22), (v22)⟩
        · intro hb hd hK
          have d9 := hd 9 (by kernel_rfl)
          have dG := i6 9 (by omega) (by omega) d9
          obtain ⟨q, eG⟩ := e6 dG
          cases q with
          | false => exact wpOp_skipU 9 54 false rfl rfl ((hon 9 54 rfl).trans (congrArg some (u9 d9 eG))) (hK.out _ _ ⟨(hW), (updB_imp i6 (fun _ _ => dG)), (updB_imp i9 (fun _ _ => d9)), (h0), (h1), (h2), (h3), (e4), (e5), (e6), (h7), (h8), (h9), (u9), (h10), (h11), (h12), (h13), (fun _ h6 => absurd (eG.symm.trans h6) (by intro h; cases h)), (h15), (h16), (h17), (h18), (e19), (e20), (e21), (e22), (v22)⟩)
          | true =>
            have gG : t[(54 : Nat)]? = some (.bool false) := (hon 9 54 rfl).trans (congrArg some (h9 d9 eG))
            have d11 := hd 11 (by kernel_rfl)
            have g56 : t[(56 : Nat)]? = some (.slice (some ⟨G, off, none⟩) m.hn m.hc) := (hon 11 56 rfl).trans (congrArg some (h11 d11 eG))
            have d13 := hd 13 (by kernel_rfl)
            have g58 : t[(58 : Nat)]? = some (.int .i64 (j : Nat)) := (hon 13 58 rfl).trans (congrArg some (h13 d13 eG))
            clear hoff hon hd
            refine wpOp_wantG 9 54 false rfl rfl rfl gG ?_
            go_simp
            exact hK.out _ _ ⟨(hW), (updB_imp i6 (fun _ _ => dG)), (updB_imp i9 (fun _ _ => d9)), (h0), (h1), (h2), (h3), (e4), (e5), (e6), (h7), (h8), (h9), (u9), (h10), (h11), (h12), (h13), (fun _ _ => rfl), (h15), (h16), (h17), (h18), (e19), (e20), (e21), (e22), (v22)⟩
        · intro hb hd hK
          have d9 := hd 9 (by kernel_rfl)
          have dG := i6 9 (by omega) (by omega) d9
          obtain ⟨q, eG⟩ := e6 dG
          cases q with
          | false => exact wpOp_skipU 9 54 false rfl rfl ((hon 9 54 rfl).trans (congrArg some (u9 d9 eG))) (hK.out _ _ ⟨(hW), (updB_imp i6 (fun _ _ => dG)), (updB_imp i9 (fun _ _ => d9)), (h0), (h1), (h2), (h3), (e4), (e5), (e6), (h7), (h8), (h9), (u9), (h10), (h11), (h12), (h13), (h14), (fun _ h6 => absurd (eG.symm.trans h6) (by intro h; cases h)), (h16), (h17), (h18), (e19), (e20), (e21), (e22), (v22)⟩)
          | true =>
            have gG : t[(54 : Nat)]? = some (.bool false) := (hon 9 54 rfl).trans (congrArg some (h9 d9 eG))
            have d14 := hd 14 (by kernel_rfl)
            have g59 : t[(59 : Nat)]? = some (.pointer (some ⟨G, off + j * 14, none⟩)) := (hon 14 59 rfl).trans (congrArg some (h14 d14 eG))
            clear hoff hon hd
            refine wpOp_wantG 9 54 false rfl rfl rfl gG ?_
            go_simp
            exact hK.out _ _ ⟨(hW), (updB_imp i6 (fun _ _ => dG)), (updB_imp i9 (fun _ _ => d9)), (h0), (h1), (h2), (h3), (e4), (e5), (e6), (h7), (h8), (h9), (u9), (h10), (h11), (h12), (h13), (h14), (fun _ _ => rfl), (h16), (h17), (h18), (e19), (e20), (e21), (e22), (v22)⟩
        · intro hb hd hK
          have d9 := hd 9 (by kernel_rfl)
          have dG := i6 9 (by omega) (by omega) d9
          obtain ⟨q, eG⟩ := e6 dG
          cases q with
          | false => exact wpOp_skipU 9 54 false rfl rfl ((hon 9 54 rfl).trans (congrArg some (u9 d9 eG))) (hK.out _ _ ⟨(hW), (updB_imp i6 (fun _ _ => dG)), (updB_imp i9 (fun _ _ => d9)), (h0), (h1), (h2), (h3), (e4), (e5), (e6), (h7), (h8), (h9), (u9), (h10), (h11), (h12), (h13), (h14), (h15), (fun _ h6 => absurd (eG.symm.trans h6) (by intro h; cases h)), (h17), (h18), (e19), (e20), (e21), (e22), (v22)⟩)
          | true =>
            have gG : t[(54 : Nat)]? = some (.bool false) := (hon 9 54 rfl).trans (congrArg some (h9 d9 eG))
            have d15 := hd 15 (by kernel_rfl)
            have g60 : t[(60 : Nat)]? = some (.pointer (some ⟨G, off + j * 14, none⟩)) := (hon 15 60 rfl).trans (congrArg some (h15 d15 eG))
            have c0 := HPI.out _ hW
            clear hoff hon hd
            refine wpOp_wantG 9 54 false rfl rfl rfl gG ?_
            go_simp
            exact hK.out _ _ ⟨(hW), (updB_imp i6 (fun _ _ => dG)), (updB_imp i9 (fun _ _ => d9)), (h0), (h1), (h2), (h3), (e4), (e5), (e6), (h7), (h8), (h9), (u9), (h10), (h11), (h12), (h13), (h14), (h15), (fun _ _ => rfl), (h17), (h18), (e19), (e20), (e21), (e22), (v22)⟩
        · intro hb hd hK
          have d9 := hd 9 (by kernel_rfl)
          have dG := i6 9 (by omega) (by omega) d9
          obtain ⟨q, eG⟩ := e6 dG
          cases q with
          | false => exact wpOp_skipU 9 54 false rfl rfl ((hon 9 54 rfl).trans (congrArg some (u9 d9 eG))) (hK.out _ _ ⟨(hW), (updB_imp i6 (fun _ _ => dG)), (updB_imp i9 (fun _ _ => d9)), (h0), (h1), (h2), (h3), (e4), (e5), (e6), (h7), (h8), (h9), (u9), (h10), (h11), (h12), (h13), (h14), (h15), (h16), (fun _ h6 => absurd (eG.symm.trans h6) (by intro h; cases h)), (h18), (e19), (e20), (e21), (e22), (v22)⟩)
          | true =>
            have gG : t[(54 : Nat)]? = some (.bool false) := (hon 9 54 rfl).trans (congrArg some (h9 d9 eG))
            have g6 : t[(6 : Nat)]? = some (.pointer (some ⟨S3, 0, none⟩)) := hoff 6 _ rfl rfl
            clear hoff hon hd
            refine wpOp_wantG 9 54 false rfl rfl rfl gG ?_
            go_simp
            exact hK.out _ _ ⟨(hW), (updB_imp i6 (fun _ _ => dG)), (updB_imp i9 (fun _ _ => d9)), (h0), (h1), (h2), (h3), (e4), (e5), (e6), (h7), (h8), (h9), (u9), (h10), (h11), (h12), (h13), (h14), (h15), (h16), (fun _ _ => rfl), (h18), (e19), (e20), (e21), (e22), (v22)⟩
        · intro hb hd hK
          have d9 := hd 9 (by kernel_rfl)
          have dG := i6 9 (by omega) (by omega) d9
          obtain ⟨q, eG⟩ := e6 dG
          cases q with
          | false => exact wpOp_skipU 9 54 false rfl rfl ((hon 9 54 rfl).trans (congrArg some (u9 d9 eG))) (hK.out _ _ ⟨(hW), (updB_imp i6 (fun _ _ => dG)), (updB_imp i9 (fun _ _ => d9)), (h0), (h1), (h2), (h3), (e4), (e5), (e6), (h7), (h8), (h9), (u9), (h10), (h11), (h12), (h13), (h14), (h15), (h16), (h17), (fun _ h6 => absurd (eG.symm.trans h6) (by intro h; cases h)), (e19), (e20), (e21), (e22), (v22)⟩)
          | true =>
            have gG : t[(54 : Nat)]? = some (.bool false) := (hon 9 54 rfl).trans (congrArg some (h9 d9 eG))
            have d17 := hd 17 (by kernel_rfl)
            have g62 : t[(62 : Nat)]? = some (.pointer (some ⟨S3, 0, none⟩)) := (hon 17 62 rfl).trans (congrArg some (h17 d17 eG))
            have c0 := hcell (k := 0) (v := .int .i64 hid) (hkeep hW HH3.out) rfl
            clear hoff hon hd
            refine wpOp_wantG 9 54 false rfl rfl rfl gG ?_
            go_simp
            exact hK.out _ _ ⟨(hW), (updB_imp i6 (fun _ _ => dG)), (updB_imp i9 (fun _ _ => d9)), (h0), (h1), (h2), (h3), (e4), (e5), (e6), (h7), (h8), (h9), (u9), (h10), (h11), (h12), (h13), (h14), (h15), (h16), (h17), (fun _ _ => rfl), (e19), (e20), (e21), (e22), (v22)⟩
        · intro hb hd hK
          have d9 := hd 9 (by kernel_rfl)
          have dG := i6 9 (by omega) (by omega) d9
          obtain ⟨q, eG⟩ := e6 dG
          cases q with
          | false => exact wpOp_skipU 9 54 false rfl rfl ((hon 9 54 rfl).trans (congrArg some (u9 d9 eG))) (hK.out _ _ ⟨(hW), (updB_imp i6 (fun _ _ => dG)), (updB_imp i9 (fun _ _ => d9)), (h0), (h1), (h2), (h3), (e4), (e5), (e6), (h7), (h8), (h9), (u9), (h10), (h11), (h12), (h13), (h14), (h15), (h16), (h17), (h18), (fun _ h6 => absurd (eG.symm.trans h6) (by intro h; cases h)), (e20), (e21), (e22), (v22)⟩)
          | true =>
            have gG : t[(54 : Nat)]? = some (.bool false) := (hon 9 54 rfl).trans (congrArg some (h9 d9 eG))
            have d16 := hd 16 (by kernel_rfl)
            have g61 : t[(61 : Nat)]? = some (.int .i64 pid) := (hon 16 61 rfl).trans (congrArg some (h16 d16 eG))
            have d18 := hd 18 (by kernel_rfl)
            have g63 : t[(63 : Nat)]? = some (.int .i64 hid) := (hon 18 63 rfl).trans (congrArg some (h18 d18 eG))
            clear hoff hon hd
            refine wpOp_wantG 9 54 false rfl rfl rfl gG ?_
            go_simp
            exact hK.out _ _ ⟨(hW), (updB_imp i6 (fun _ _ => dG)), (updB_imp i9 (fun _ _ => d9)), (h0), (h1), (h2), (h3), (e4), (e5), (e6), (h7), (h8), (h9), (u9), (h10), (h11), (h12), (h13), (h14), (h15), (h16), (h17), (h18), (fun _ _ => ⟨_, rfl⟩), (e20), (e21), (e22), (v22)⟩
        · intro hb hd hK
          have dG := hd 6 (by kernel_rfl)
          have d6 := dG
          have d9 := hd 9 (by kernel_rfl)
          have d19 := hd 19 (by kernel_rfl)
          obtain ⟨q, eG⟩ := e6 dG
          have gG : t[(51 : Nat)]? = some (.bool q) := (hon 6 51 rfl).trans (congrArg some eG)
          cases q with
          | false => exact wpOp_skipG 6 51 false true rfl rfl gG rfl (hK.out _ _ ⟨(hW), (updB_imp i6 (fun _ _ => d6)), (updB_imp i9 (fun h1 h2 => by omega)), (h0), (h1), (h2), (h3), (e4), (e5), (e6), (h7), (h8), (h9), (u9), (h10), (h11), (h12), (h13), (h14), (h15), (h16), (h17), (h18), (e19), (fun _ h6 => absurd (eG.symm.trans h6) (by intro h; cases h)), (e21), (e22), (v22)⟩)
          | true =>
            have g54 : t[(54 : Nat)]? = some (.bool false) := (hon 9 54 rfl).trans (congrArg some (h9 d9 eG))
            obtain ⟨q2, eq2⟩ := e19 d19 eG
            have g64 : t[(64 : Nat)]? = some (.bool q2) := (hon 19 64 rfl).trans (congrArg some eq2)
            clear hoff hon hd
            refine wpOp_wantG 6 51 true rfl rfl rfl gG ?_
            go_simp
            exact hK.out _ _ ⟨(hW), (updB_imp i6 (fun _ _ => d6)), (updB_imp i9 (fun h1 h2 => by omega)), (h0), (h1), (h2), (h3), (e4), (e5), (e6), (h7), (h8), (h9), (u9), (h10), (h11), (h12), (h13), (h14), (h15), (h16), (h17), (h18), (e19), (fun _ _ => ⟨_, rfl⟩), (e21), (e22), (v22)⟩
        · intro hb hd hK
          have d6 := hd 6 (by kernel_rfl)
          have d20 := hd 20 (by kernel_rfl)
          obtain ⟨q, eq⟩ := e6 d6
          have g51 : t[(51 : Nat)]? = some (.bool q) := (hon 6 51 rfl).trans (congrArg some eq)
          have gv : t[(65 : Nat)]? = some (vals 20) := hon 20 65 rfl
          cases q with
          | false =>
            clear hoff hon hd
            refine wpOp_of rfl rfl ?_
            go_simp
            exact hK.out _ _ ⟨(hW), (updB_imp i6 (fun h1 h2 => by omega)), (updB_imp i9 (fun h1 h2 => by omega)), (h0), (h1), (h2), (h3), (e4), (e5), (e6), (h7), (h8), (h9), (u9), (h10), (h11), (h12), (h13), (h14), (h15), (h16), (h17), (h18), (e19), (e20), (fun _ => ⟨_, rfl⟩), (e22), (v22)⟩
          | true =>
            obtain ⟨q2, eq2⟩ := e20 d20 eq
            rw [eq2] at gv
            clear hoff hon hd
            refine wpOp_of rfl rfl ?_
            go_simp
            exact hK.out _ _ ⟨(hW), (updB_imp i6 (fun h1 h2 => by omega)), (updB_imp i9 (fun h1 h2 => by omega)), (h0), (h1), (h2), (h3), (e4), (e5), (e6), (h7), (h8), (h9), (u9), (h10), (h11), (h12), (h13), (h14), (h15), (h16), (h17), (h18), (e19), (e20), (fun _ => ⟨_, rfl⟩), (e22), (v22)⟩
        · intro hb hd hK
          have d21 := hd 21 (by kernel_rfl)
          have p21 := e21 d21
          have g66 : t[(66 : Nat)]? = some (vals 21) := hon 21 66 rfl
          obtain ⟨q, eq21⟩ := p21
          rw [eq21] at g66
          clear hoff hon
          refine wpOp_of rfl rfl ?_
          go_simp
          exact hK.out _ _ ⟨(hW), (updB_imp i6 (fun h1 h2 => by omega)), (updB_imp i9 (fun h1 h2 => by omega)), (h0), (h1), (h2), (h3), (e4), (e5), (e6), (h7), (h8), (h9), (u9), (h10), (h11), (h12), (h13), (h14), (h15), (h16), (h17), (h18), (e19), (e20), (e21), (fun _ => ⟨_, rfl⟩), (fun h => absurd (show b 0 = false from h) (by rw [hd 0 (by kernel_rfl)]; decide))⟩
      · intro bq vals wi hR hall
        obtain ⟨hW, i6, i9, h0, h1, h2, h3, e4, e5, e6, h7, h8, h9, u9, h10, h11, h12, h13, h14, h15, h16, h17, h18, e19, e20, e21, e22, v22⟩ := hR
        obtain ⟨ok2, e22⟩ := e22 (hall 22 (by decide))
        dsimp only [over]
        rw [e22]
        have hM4 := hkeep hW HM3.out
        have hB4 := hB3.trans (hW.mono hB3.size)
        clear v22 h0 h1 h2 h3 h7 h8 h9 h10 h11 h12 h13 h14 h15 h16 h17 h18 e4 e5 e6 e19 e20 e21 e22 i6 i9 u9 hall hW
        go_wp2
        go_roundw
        case rel => exact ⟨k + 1, ok2, rfl, by go_num, by omega, hM4, hB4⟩
        case measure => simp [intOf]; omega
end Go.Proofs.Ytgfmdgiepomkiaa
