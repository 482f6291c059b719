/- Walks: the law OpenHigh. -/
import Derived.Test.YtilhmlapbifbbaaFloW
import Derived.Test.YtilhmlapbifbbaaFloP
namespace Go.Proofs.Ytilhmlapbifbbaa
open Go.RowKit Go.Sort

/-- Has one of the first j spans its top at y, and may it be walked? -/
def fnd (xs : List Spn) (y : Int) (j : Nat) : Bool := (xs.take j).any fun s => (s.hi == y) && s.walk
theorem fnd_succ {xs : List Spn} {y : Int} {j : Nat} {s : Spn} (h : xs[j]? = some s) : fnd xs y (j + 1) = (fnd xs y j || ((s.hi == y) && s.walk)) := by
  have hj := (List.getElem?_eq_some_iff.1 h).1
  have he : xs[j] = s := (List.getElem?_eq_some_iff.1 h).2
  unfold fnd
  rw [List.take_succ_eq_append_getElem hj, List.any_append, he]
  simp
theorem openE_sp {cf : Cfg} {xs : List Spn} (h : (cfgOk cf && spOk xs) = true) : spE xs = 0 := by
  simp only [Bool.and_eq_true] at h
  simp [spE, h.2]

set_option maxHeartbeats 2000000 in
theorem openhigh_any (cf : Cfg) (a : Option Addr) (n c : Nat) (xs : List Spn) (w : World) (hx : SlSp w a n c xs) :
    Calls Try.prog 5 #[cfgV cf, .slice a n c] w fun e w' => e = .returned (.bool true) ∧ Below w.heap.size w w' := by
  have Hl := Lib.hid hx.len
  have hmax := hx.max
  have hle := hx.le
  have Hx := Lib.hid hx; clear hx
  have hE := openE_eq cf xs
  obtain ⟨clear, climb, height, rise, run, cw, cd⟩ := cf
  show Calls Try.prog _ #[.agg #[.int .i64 clear, .int .i64 climb, .int .i64 height, .int .i64 rise, .int .i64 run, .int .i64 cw, .int .i64 cd], .slice a n c] w _
  by_cases hn : 40 < n
  · have hn' : (40 : Int) < (n : Int) := by omega
    go_enter Try.func5, Try.ntmps5
    go_wp2_with fail
    refine (wakes11_any _).mono ?_
    rintro e w1 ⟨rfl, hb1⟩
    have hB1 : Below w.heap.size w w1 := ((Below.refl _ _).alloc (Nat.le_refl _) _).trans (hb1.mono (by simp))
    go_wp2
    go_ret
    exact ⟨rfl, hB1⟩
  have hn' : ¬ (40 : Int) < (n : Int) := by omega
  rcases hE with ⟨h1, h2⟩ | ⟨ke, h1, hne, h2⟩
  · have HE1 := Lib.hid h1
    have HE2 := Lib.hid h2
    clear h1 h2
    have HG := Lib.hid (fun (i : Nat) (f : Flr) (hf : (flrs ⟨clear, climb, height, rise, run, cw, cd⟩ xs)[i]? = some f) => flr_good HE2.out hf)
    obtain ⟨fs, hfs⟩ : ∃ fs, fs = flrs ⟨clear, climb, height, rise, run, cw, cd⟩ xs := ⟨_, rfl⟩
    have Hfs := Lib.hid hfs; clear hfs
    go_enter Try.func5, Try.ntmps5
    go_wp2_with fail
    refine (floors_any ⟨clear, climb, height, rise, run, cw, cd⟩ a n c xs _ (Hx.out.alloc _)).mono ?_
    rintro e w1 ⟨v1, he, hown1, hb1⟩
    rw [HE1.out] at he
    rw [← Hfs.out] at hown1 HG
    subst he
    obtain ⟨af, kf, rfl, hsf⟩ := OwnR.reads (f := flrC) (sz := 3) (fun _ => rfl) hown1
    have hB1 : Below w.heap.size w w1 := ((Below.refl _ _).alloc (Nat.le_refl _) _).trans (hb1.mono (by simp))
    have Hsf := Lib.hid hsf
    clear hb1 hown1 hsf
    go_wp2_with fail
    refine (refspancheck_any a n c xs _ (Hx.out.below hB1 (Nat.le_refl _))).mono ?_
    rw [openE_sp HE2.out]
    rintro e w2 ⟨rfl, hb2⟩
    have hB2 := hB1.trans (hb2.mono hB1.size)
    have Hsf2 : Hid (SlFl w2 af fs.length kf fs) := Hsf.out.below hb2 (Nat.le_refl _)
    have Hx2 : Hid (SlSp w2 a n c xs) := Hx.out.below hB2 (Nat.le_refl _)
    have hmf := Hsf.out.max
    have hlf := Hsf.out.le
    clear hb2 hB1 Hsf
    obtain ⟨m, hm⟩ : ∃ m, m = fs.length := ⟨_, rfl⟩
    rw [← hm] at Hsf2 hlf ⊢
    have Hm := Lib.hid hm; clear hm
    go_wp2
    go_loopw [41] (fun i wr => ∃ k : Nat, i = .int .i64 k ∧ k ≤ m ∧ Below w2.heap.size w2 wr) (fun i _ => m - (intOf i).toNat)
    case atStart => exact ⟨0, rfl, Nat.zero_le _, Below.refl _ _⟩
    case round =>
      obtain ⟨k, rfl, hk, hbr⟩ := hrel
      obtain ⟨wo, rfl⟩ : ∃ wo : World, wo = wr := ⟨_, rfl⟩
      have hBr := hB2.trans (hbr.mono hB2.size)
      by_cases hlt : k < m
      · obtain ⟨bf, of, rfl, hbl, hcf⟩ := (Hsf2.out.below hbr (Nat.le_refl _)).at0 (by omega)
        obtain ⟨f, hfk⟩ : ∃ f, fs[k]? = some f := ⟨_, List.getElem?_eq_getElem (by rw [← Hm.out]; exact hlt)⟩
        have Hgood := Lib.hid (HG.out k f hfk)
        obtain ⟨fy, ft, fa⟩ := f
        obtain ⟨c1, c2, c3⟩ := SlFl.cells hcf hfk
        simp only at c1 c2 c3
        have Hcf := Lib.hid hcf
        have hltI : (k : Int) < (m : Int) := by omega
        clear hcf hfk
        go_wp2
        refine wp_named (F := fun w0 => Below w2.heap.size w2 w0 ∧ w0.heap.size = wo.heap.size + 1 ∧ w0.cell? ⟨wo.heap.size, 0, none⟩ = some (.int .i64 fy) ∧ w0.cell? ⟨wo.heap.size, 1, none⟩ = some (.int .i64 ft) ∧ Below wo.heap.size wo w0) ⟨hbr.alloc hbr.size _, World.size_alloc _ _, World.cell?_alloc_at _ _ _ _ rfl, World.cell?_alloc_at _ _ _ _ rfl, (Below.refl _ _).alloc (Nat.le_refl _) _⟩ ?_
        rintro wf ⟨hbf, hszf, y1, y2, hbw⟩
        have Y1 := Lib.hid y1
        have Y2 := Lib.hid y2
        have hszf' : wo.heap.size < wf.heap.size := by omega
        clear y1 y2 hszf c1 c2 c3
        go_loopw [9, 48] (fun fo j wi => ∃ q : Nat, j = .int .i64 q ∧ q ≤ n ∧ fo = .bool (fnd xs fy q) ∧ Below wf.heap.size wf wi) (fun _ j _ => n - (intOf j).toNat)
        case atStart => exact ⟨0, rfl, Nat.zero_le _, rfl, Below.refl _ _⟩
        case round =>
          obtain ⟨q, rfl, hq, rfl, hbi⟩ := hrel
          have hBi := hbf.trans (hbi.mono hbf.size)
          have y1 := (hbi.cell (p := ⟨wo.heap.size, 0, none⟩) hszf').trans Y1.out
          have y2 := (hbi.cell (p := ⟨wo.heap.size, 1, none⟩) hszf').trans Y2.out
          have hszi := Nat.lt_of_lt_of_le hszf' hbi.size
          by_cases hqn : q < n
          · obtain ⟨bs, os, rfl, hbs, hcs⟩ := (Hx2.out.below hBi (Nat.le_refl _)).at0 (by omega)
            obtain ⟨s, hsq⟩ : ∃ s, xs[q]? = some s := ⟨_, List.getElem?_eq_getElem (by rw [Hl.out]; exact hqn)⟩
            have hno := Hgood.out.clear s (List.mem_of_getElem? hsq)
            have hfs := fnd_succ (y := fy) hsq
            obtain ⟨slo, shi, sw⟩ := s
            obtain ⟨d1, d2, d3⟩ := SlSp.cells hcs hsq
            simp only at d1 d2 d3 hno hfs
            have hqI : (q : Int) < (n : Int) := by omega
            clear hcs hsq
            obtain ⟨fo, hfo⟩ : ∃ fo, fo = fnd xs fy q := ⟨_, rfl⟩
            rw [← hfo] at hfs ⊢
            clear hfo
            cases fo with
            | true =>
              have Hfs : Hid (fnd xs fy (q + 1) = true) := by show _ = _; rw [hfs]; rfl
              clear hfs
              by_cases hgt : fy < shi
              · have hge : ¬ slo < ft := fun h => hno ⟨hgt, h⟩
                clear hno
                go_wp2
                go_roundw
                case rel => exact ⟨q + 1, by go_num, by omega, by rw [Hfs.out], hbi.alloc hbi.size _⟩
                case measure => simp [intOf]; omega
              · clear hno
                go_wp2
                go_roundw
                case rel => exact ⟨q + 1, by go_num, by omega, by rw [Hfs.out], hbi.alloc hbi.size _⟩
                case measure => simp [intOf]; omega
            | false =>
              by_cases heq : shi = fy
              · subst heq
                have hgt : ¬ shi < shi := by omega
                have hq1 : (shi == shi) = true := by simp
                cases sw with
                | true =>
                  have Hfs : Hid (fnd xs shi (q + 1) = true) := by show _ = _; rw [hfs]; simp
                  clear hfs hno
                  go_wp2
                  go_roundw
                  case rel => exact ⟨q + 1, by go_num, by omega, by rw [Hfs.out], hbi.alloc hbi.size _⟩
                  case measure => simp [intOf]; omega
                | false =>
                  have Hfs : Hid (fnd xs shi (q + 1) = false) := by show _ = _; rw [hfs]; simp
                  clear hfs hno
                  go_wp2
                  go_roundw
                  case rel => exact ⟨q + 1, by go_num, by omega, by rw [Hfs.out], hbi.alloc hbi.size _⟩
                  case measure => simp [intOf]; omega
              · have hq1 : (shi == fy) = false := by simp [heq]
                have Hfs : Hid (fnd xs fy (q + 1) = false) := by show _ = _; rw [hfs, hq1]; rfl
                clear hfs heq
                by_cases hgt : fy < shi
                · have hge : ¬ slo < ft := fun h => hno ⟨hgt, h⟩
                  clear hno
                  go_wp2
                  go_roundw
                  case rel => exact ⟨q + 1, by go_num, by omega, by rw [Hfs.out], hbi.alloc hbi.size _⟩
                  case measure => simp [intOf]; omega
                · clear hno
                  go_wp2
                  go_roundw
                  case rel => exact ⟨q + 1, by go_num, by omega, by rw [Hfs.out], hbi.alloc hbi.size _⟩
                  case measure => simp [intOf]; omega
          · have hfn : Hid (fnd xs fy q = true) := by
              show _ = _
              have := Hgood.out.found
              unfold fnd
              rw [List.take_of_length_le (by rw [Hl.out]; omega)]
              exact this
            rw [hfn.out]
            by_cases hk0 : k = 0
            · subst hk0
              have hd : decide ((0 : Int) < ((0 : Nat) : Int)) = false := by simp
              have hd2 : ¬ (0 : Int) < ((0 : Nat) : Int) := by simp
              go_wp2
              go_quiet (fail)
              go_wp2
              go_roundw
              case rel => exact ⟨1, by go_num, by omega, below_drewN hBi _⟩
              case measure => simp [intOf]; omega
            · obtain ⟨g, hgk⟩ : ∃ g, fs[k - 1]? = some g := ⟨_, List.getElem?_eq_getElem (by rw [← Hm.out]; omega)⟩
              have hri := Hgood.out.rises g (by omega) hgk
              simp only at hri
              have hkN : 0 < k := by omega
              have g2 := ((hbi.cell (p := ⟨bf, of + (k - 1) * 3 + 1, none⟩) (by simp; omega)).trans (hbw.cell (p := ⟨bf, of + (k - 1) * 3 + 1, none⟩) hbl)).trans (SlFl.cells Hcf.out hgk).2.1
              have hk1 : (0 : Int) < (k : Int) := by omega
              have hkc : (k : Int) - 1 = ((k - 1 : Nat) : Int) := by omega
              have hri' : ¬ fy < g.top := by omega
              clear hri hgk
              go_wp2
              go_quiet (fail)
              go_wp2
              go_roundw
              case rel => exact ⟨k + 1, by go_num, by omega, below_drewN hBi _⟩
              case measure => simp [intOf]; omega
      · go_wp2_with fail
        refine (wakes11_any _).mono ?_
        rintro e w3 ⟨rfl, hb3⟩
        have hB3 := hBr.trans (hb3.mono hBr.size)
        go_wp2
        go_ret
        exact ⟨rfl, hB3⟩
  · have HE1 := Lib.hid h1
    have HE2 := Lib.hid h2
    clear h1 h2
    have hfl : flrs ⟨clear, climb, height, rise, run, cw, cd⟩ xs = [] := by unfold flrs; rw [HE2.out]; rfl
    have Hfl := Lib.hid hfl; clear hfl
    go_enter Try.func5, Try.ntmps5
    go_wp2_with fail
    refine (floors_any ⟨clear, climb, height, rise, run, cw, cd⟩ a n c xs _ (Hx.out.alloc _)).mono ?_
    rintro e w1 ⟨v1, he, hown1, hb1⟩
    rw [HE1.out] at he
    rw [Hfl.out] at hown1
    subst he
    obtain ⟨af, kf, rfl, hsf⟩ := OwnR.reads (f := flrC) (sz := 3) (fun _ => rfl) hown1
    have hB1 : Below w.heap.size w w1 := ((Below.refl _ _).alloc (Nat.le_refl _) _).trans (hb1.mono (by simp))
    clear hb1 hown1 hsf
    simp only [List.length_nil]
    go_wp2_with fail
    refine (wakes11_any _).mono ?_
    rintro e w2 ⟨rfl, hb2⟩
    have hB2 := hB1.trans (hb2.mono hB1.size)
    go_wp2
    go_ret
    exact ⟨rfl, hB2⟩

end Go.Proofs.Ytilhmlapbifbbaa
