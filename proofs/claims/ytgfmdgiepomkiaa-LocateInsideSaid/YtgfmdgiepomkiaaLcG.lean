/- Walks: which areas a filter admits. -/
import Derived.Test.YtgfmdgiepomkiaaLcF
import Derived.Laws.Rows
namespace Go.Proofs.Ytgfmdgiepomkiaa
open Go.RowKit Go.Sort
attribute [local go_sem] Instr.index

theorem lmay1_any (n : Int) (w : World) : Calls Try.prog 87 #[.int .i64 n] w fun e w' => e = .returned (.bool (costOk n)) ∧ w' = w := by
  unfold costOk
  by_cases h1 : n < 1
  · have HE : Hid ((decide (n < 1) || decide (16 < n)) = true) := by show _ = _; rw [decide_eq_true h1]; rfl
    go_enter Try.func87, Try.ntmps87
    go_wp2
    go_ret
    exact ⟨by rw [HE.out]; rfl, rfl⟩
  · have HE : Hid ((decide (n < 1) || decide (16 < n)) = decide (16 < n)) := by show _ = _; rw [decide_eq_false h1]; rfl
    go_enter Try.func87, Try.ntmps87
    go_wp2
    go_ret
    exact ⟨by rw [HE.out]; rfl, rfl⟩
theorem any_upto {xs : List Int} {k : Nat} {p : Int → Bool} (h : ∀ (j : Nat) y, j < k → xs[j]? = some y → p y = false) (hk : xs.length ≤ k) : xs.any p = false := by
  rw [List.any_eq_false]
  intro x hx
  obtain ⟨j, hj, rfl⟩ := List.getElem_of_mem hx
  rw [h j _ (by omega) (List.getElem?_eq_getElem hj)]
  simp
theorem any_at {xs : List Int} {k : Nat} {p : Int → Bool} {x : Int} (hx : xs[k]? = some x) (h : p x = true) : xs.any p = true :=
  List.any_eq_true.2 ⟨x, List.mem_of_getElem? hx, h⟩
abbrev may1V : Value := .func (.func 87) #[] #[]
set_option maxHeartbeats 4000000 in
theorem lidx_any (a : Option Addr) (n c : Nat) (xs : List Int) (w : World) (hx : SlI .i64 w a n c xs) :
    Calls Try.prog 106 #[.slice a n c, may1V] w fun e w' => (∃ k : Int, e = .returned (.int .i64 k) ∧ xs.any costOk = decide (0 ≤ k)) ∧ Below w.heap.size w w' := by
  have Hl := Lib.hid hx.len
  have hmax := hx.max
  have hle := hx.le
  have HX := Lib.hid (fun W (hb : Below w.heap.size w W) => hx.below hb (Nat.le_refl _))
  clear hx
  have M1 := Lib.hid (fun n W => lmay1_any n W)
  go_enter Try.func106, Try.ntmps106
  go_wp2
  go_loopw [8] (fun s wr => ∃ k : Nat, s = .int .i64 k ∧ k ≤ n ∧ Hid (∀ (j : Nat) y, j < k → xs[j]? = some y → costOk y = false) ∧ Below w.heap.size w wr) (fun s _ => n - (intOf s).toNat)
  case atStart => exact ⟨0, rfl, Nat.zero_le _, (fun j y h _ => absurd h (Nat.not_lt_zero _)), Below.refl _ _⟩
  case round =>
    obtain ⟨k, rfl, hk, HF, hb⟩ := hrel
    by_cases hkn : k < n
    case neg =>
      obtain rfl : k = n := by omega
      have hI : ¬ (k : Int) < (k : Int) := by omega
      have HR : Hid (xs.any costOk = false) := any_upto HF.out (Nat.le_of_eq Hl.out)
      go_wp2
      go_ret
      exact ⟨⟨-1, rfl, by rw [HR.out]; rfl⟩, hb⟩
    have hI : (k : Int) < (n : Int) := by omega
    have wi1 : IntKind.i64.wrap ((k : Int) + 1) = ((k + 1 : Nat) : Int) := by rw [IntKind.wrap_i64]; omega
    have hs := HX.out _ hb
    obtain ⟨x, hxk⟩ : ∃ x, xs[k]? = some x := ⟨_, List.getElem?_eq_getElem (by rw [Hl.out]; exact hkn)⟩
    obtain ⟨b, off, rfl, hc⟩ := hs.at0 (by omega)
    have ck := hc k hkn
    rw [List.getD_eq_getElem?_getD, hxk] at ck
    simp only [Option.getD_some] at ck
    clear hs hc
    obtain ⟨q, hq⟩ : ∃ q, q = costOk x := ⟨_, rfl⟩
    have HQ := Lib.hid hq
    have HXK := Lib.hid hxk
    clear hq hxk
    go_wp2_with fail
    refine (M1.out x _).mono ?_
    rintro e w1 ⟨rfl, rfl⟩
    rw [← HQ.out]
    cases q with
    | true =>
      have HR : Hid (xs.any costOk = true) := any_at HXK.out HQ.out.symm
      go_wp2
      go_ret
      exact ⟨⟨k, rfl, by rw [HR.out, decide_eq_true (by omega)]⟩, hb⟩
    | false =>
      have HF2 : Hid (∀ (j : Nat) y, j < k + 1 → xs[j]? = some y → costOk y = false) := fun j y hj hy => by
        by_cases hjk : j < k
        · exact HF.out j y hjk hy
        · obtain rfl : j = k := by omega
          rw [HXK.out] at hy
          cases hy
          exact HQ.out.symm
      clear ck
      go_wp2
      go_roundw
      case rel => exact ⟨k + 1, by go_num, by omega, HF2, hb⟩
      case measure => simp [intOf]; omega
theorem lcont_any (a : Option Addr) (n c : Nat) (xs : List Int) (w : World) (hx : SlI .i64 w a n c xs) :
    Calls Try.prog 86 #[.slice a n c, may1V] w fun e w' => e = .returned (.bool (xs.any costOk)) ∧ Below w.heap.size w w' := by
  have IX := Lib.hid (lidx_any a n c xs w hx)
  clear hx
  obtain ⟨q, hq⟩ : ∃ q, q = xs.any costOk := ⟨_, rfl⟩
  rw [← hq] at IX ⊢
  clear hq
  go_enter Try.func86, Try.ntmps86
  go_wp2_with fail
  refine IX.out.mono ?_
  rintro e w1 ⟨⟨k, rfl, rfl⟩, hb⟩
  go_wp2
  go_ret
  exact ⟨rfl, hb⟩
abbrev fltO (f : Flt) : Obj := .cells (fltA f) 46 (0, 0)
theorem flt_sl {f : Flt} {w : World} {T : Nat} (h : w.heap[T]? = some (fltO f)) : SlI .i64 w (some ⟨T, 1, none⟩) 8 8 (fltCs f) := by
  refine ⟨rfl, Nat.le_refl _, by omega, .inr ⟨T, 1, rfl, fun i hi => ?_⟩⟩
  have : i = 0 ∨ i = 1 ∨ i = 2 ∨ i = 3 ∨ i = 4 ∨ i = 5 ∨ i = 6 ∨ i = 7 := by omega
  rcases this with rfl | rfl | rfl | rfl | rfl | rfl | rfl | rfl <;> exact hcell h rfl
set_option maxRecDepth 100000 in
set_option maxHeartbeats 4000000 in
theorem lmay_any (f : Flt) (w : World) : Calls Try.prog 46 #[fltV f] w fun e w' => e = .returned (.bool (fltMay f)) ∧ Below w.heap.size w w' := by
  have hB : Below w.heap.size w (w.alloc (fltO f)) := (Below.refl _ _).alloc (Nat.le_refl _) _
  have hT := World.alloc_heap_new w (fltO f)
  have c0 := hcell (k := 0) (v := .int .i64 f.areas) hT rfl
  have CO := Lib.hid (lcont_any _ _ _ _ _ (flt_sl hT))
  have HO : Hid (∀ w', Below w.heap.size w w' → Ending.returned (.bool (decide (0 ≤ f.areas) && decide (f.areas ≤ 255) && !((fltCs f).any costOk))) = Ending.returned (.bool (fltMay f)) ∧ Below w.heap.size w w') := fun w' hB => ⟨rfl, hB⟩
  obtain ⟨q, hq⟩ : ∃ q, q = (fltCs f).any costOk := ⟨_, rfl⟩
  rw [← hq] at CO HO
  clear hq hT
  dsimp only [fltA, fltO, fltV] at hB c0 CO ⊢
  by_cases h1 : 0 ≤ f.areas
  case neg =>
    have HO2 := Lib.hid HO.out
    rw [decide_eq_false h1] at HO2
    go_enter Try.func46, Try.ntmps46
    go_wp2
    go_ret
    exact HO2.out _ hB
  by_cases h2 : f.areas ≤ 255
  case neg =>
    have HO2 := Lib.hid HO.out
    rw [decide_eq_true h1, decide_eq_false h2] at HO2
    go_enter Try.func46, Try.ntmps46
    go_wp2
    go_ret
    exact HO2.out _ hB
  have HO2 := Lib.hid HO.out
  rw [decide_eq_true h1, decide_eq_true h2] at HO2
  go_enter Try.func46, Try.ntmps46
  go_wp2_with fail
  refine CO.out.mono ?_
  rintro e w1 ⟨rfl, hb⟩
  go_wp2
  go_ret
  exact HO2.out _ (hB.trans (hb.mono hB.size))
/-- Is the a-th bit set? -/
def admBit (n a : Int) : Bool := bits .and .i64 (n / 2 ^ a.toNat) 1 == 1
/-- Does a filter admit an area? -/
def admF (f : Flt) (a : Int) : Bool := fltMay f && (decide (1 ≤ a) && (decide (a ≤ 7) && admBit f.areas a))
set_option maxRecDepth 100000 in
set_option maxHeartbeats 8000000 in
theorem ladm_any (f : Flt) (a : Int) (w : World) : Calls Try.prog 17 #[fltV f, .int .i64 a] w fun e w' => e = .returned (.bool (admF f a)) ∧ Below w.heap.size w w' := by
  have MY := Lib.hid (fun W => lmay_any f W)
  have hB : Below w.heap.size w (w.alloc (fltO f)) := (Below.refl _ _).alloc (Nat.le_refl _) _
  have hT := World.alloc_heap_new w (fltO f)
  have HT := Lib.hid hT
  have d0 := hcell (k := 0) (v := .int .i64 f.areas) hT rfl
  have d1 := hcell (k := 1) (v := .int .i64 f.c0) hT rfl
  have d2 := hcell (k := 2) (v := .int .i64 f.c1) hT rfl
  have d3 := hcell (k := 3) (v := .int .i64 f.c2) hT rfl
  have d4 := hcell (k := 4) (v := .int .i64 f.c3) hT rfl
  have d5 := hcell (k := 5) (v := .int .i64 f.c4) hT rfl
  have d6 := hcell (k := 6) (v := .int .i64 f.c5) hT rfl
  have d7 := hcell (k := 7) (v := .int .i64 f.c6) hT rfl
  have d8 := hcell (k := 8) (v := .int .i64 f.c7) hT rfl
  obtain ⟨q, hq⟩ : ∃ q, q = fltMay f := ⟨_, rfl⟩
  rw [← hq] at MY
  have HE : Hid (admF f a = (q && (decide (1 ≤ a) && (decide (a ≤ 7) && admBit f.areas a)))) := by show _ = _; rw [hq]; rfl
  rw [HE.out]
  clear hT hq HE
  dsimp only [fltA, fltO, fltV] at hB d0 d1 d2 d3 d4 d5 d6 d7 d8 MY HT ⊢
  cases q with
  | false =>
    go_enter Try.func17, Try.ntmps17
    go_wp2_with fail
    refine (MY.out _).mono ?_
    rintro e w1 ⟨rfl, hb⟩
    clear d0 d1 d2 d3 d4 d5 d6 d7 d8 HT MY
    go_wp2
    go_ret
    exact ⟨rfl, hB.trans (hb.mono hB.size)⟩
  | true =>
  by_cases h1 : 1 ≤ a
  case neg =>
    have HE : Hid ((true && (decide (1 ≤ a) && (decide (a ≤ 7) && admBit f.areas a))) = false) := by show _ = _; rw [decide_eq_false h1]; rfl
    rw [HE.out]
    go_enter Try.func17, Try.ntmps17
    go_wp2_with fail
    refine (MY.out _).mono ?_
    rintro e w1 ⟨rfl, hb⟩
    clear d0 d1 d2 d3 d4 d5 d6 d7 d8 HT MY
    go_wp2
    go_ret
    exact ⟨rfl, hB.trans (hb.mono hB.size)⟩
  by_cases h2 : a ≤ 7
  case neg =>
    have HE : Hid ((true && (decide (1 ≤ a) && (decide (a ≤ 7) && admBit f.areas a))) = false) := by show _ = _; rw [decide_eq_true h1, decide_eq_false h2]; rfl
    rw [HE.out]
    go_enter Try.func17, Try.ntmps17
    go_wp2_with fail
    refine (MY.out _).mono ?_
    rintro e w1 ⟨rfl, hb⟩
    clear d0 d1 d2 d3 d4 d5 d6 d7 d8 HT MY
    go_wp2
    go_ret
    exact ⟨rfl, hB.trans (hb.mono hB.size)⟩
  have h7 : a = 1 ∨ a = 2 ∨ a = 3 ∨ a = 4 ∨ a = 5 ∨ a = 6 ∨ a = 7 := by omega
  clear h1 h2
  rcases h7 with rfl | rfl | rfl | rfl | rfl | rfl | rfl
  all_goals
    go_enter Try.func17, Try.ntmps17
    go_wp2_with fail
    refine (MY.out _).mono ?_
    rintro e w1 ⟨rfl, hb⟩
    have c0 := hcell (k := 0) (v := .int .i64 f.areas) (hkeep hb HT.out) rfl
    clear d0 d1 d2 d3 d4 d5 d6 d7 d8 HT MY
    go_wp2
    go_ret
    exact ⟨rfl, hB.trans (hb.mono hB.size)⟩
set_option maxHeartbeats 4000000 in
theorem lmid_any (x z : Int) (w : World) (hx : -1000 ≤ x ∧ x ≤ 1000) (hz : -1000 ≤ z ∧ z ≤ 1000) : Calls Try.prog 44 #[.int .i64 x, .int .i64 z] w fun e w' => e = .returned (.agg #[.int .i64 (2 * x + 1), .int .i64 (2 * z + 1)]) ∧ Below w.heap.size w w' := by
  have w1 : IntKind.i64.wrap (2 * x) = 2 * x := by rw [IntKind.wrap_i64]; omega
  have w2 : IntKind.i64.wrap (2 * x + 1) = 2 * x + 1 := by rw [IntKind.wrap_i64]; omega
  have w3 : IntKind.i64.wrap (2 * z) = 2 * z := by rw [IntKind.wrap_i64]; omega
  have w4 : IntKind.i64.wrap (2 * z + 1) = 2 * z + 1 := by rw [IntKind.wrap_i64]; omega
  have hB : Below w.heap.size w (w.alloc (.cells #[.int .i64 (2 * x + 1), .int .i64 (2 * z + 1)] 48 (0, 0))) := (Below.refl _ _).alloc (Nat.le_refl _) _
  have hh := World.alloc_heap_new w (.cells #[.int .i64 (2 * x + 1), .int .i64 (2 * z + 1)] 48 (0, 0))
  clear hx hz
  go_enter Try.func44, Try.ntmps44
  go_wp2
  refine bodyPost_ret (results_cell_row rfl _ _ w.heap.size 48 #[.int .i64 (2 * x + 1), .int .i64 (2 * z + 1)] (0, 0) _ rfl hh Try.underlying48 rfl (by kernel_rfl)) rfl ?_
  exact ⟨rfl, hB⟩
abbrev fltAll : Flt := ⟨255, 1, 1, 1, 1, 1, 1, 1, 1⟩
set_option maxHeartbeats 4000000 in
theorem all25_any (w : World) : Calls Try.prog 43 #[] w fun e w' => e = .returned (fltV fltAll) ∧ Below w.heap.size w w' := by
  have hB : Below w.heap.size w (w.alloc (fltO fltAll)) := (Below.refl _ _).alloc (Nat.le_refl _) _
  have hh := World.alloc_heap_new w (fltO fltAll)
  dsimp only [fltA, fltO, fltV] at hB hh ⊢
  go_enter Try.func43, Try.ntmps43
  go_wp2
  refine bodyPost_ret (results_cell_row rfl _ _ w.heap.size 46 #[.int .i64 255, .int .i64 1, .int .i64 1, .int .i64 1, .int .i64 1, .int .i64 1, .int .i64 1, .int .i64 1, .int .i64 1] (0, 0) _ rfl hh Try.underlying46 rfl (by kernel_rfl)) rfl ?_
  exact ⟨rfl, hB⟩
theorem adm_all1 : admF fltAll 1 = true := by kernel_rfl
theorem adm_all0 : admF fltAll 0 = false := by kernel_rfl
end Go.Proofs.Ytgfmdgiepomkiaa
