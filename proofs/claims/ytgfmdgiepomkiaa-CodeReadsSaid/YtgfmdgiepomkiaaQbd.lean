/- Walk: the reference's doors: Build. -/
import Derived.Test.YtgfmdgiepomkiaaQal
import Derived.Test.YtgfmdgiepomkiaaRcrC
namespace Go.Proofs.Ytgfmdgiepomkiaa
open Go.RowKit Go.Sort
attribute [local go_sem] Instr.index

set_option maxRecDepth 100000 in
set_option maxHeartbeats 16000000 in
theorem refbuild18_any (cf : Cfg) (a : Option Addr) (n c : Nat) (xs : List (RHd × Rc)) (w : World) (hx : SlRc w a n c xs) (hn : n ≤ 200) :
    Calls Try.prog 38 #[cfgV cf, .slice a n c] w (BnPost cf (xs.map Prod.snd) w) := by
  have CF := Lib.hid (fun W => refcfgcheck_any cf W)
  have Hl := Lib.hid hx.sl.len
  have hmax := hx.sl.max
  have hle := hx.sl.le
  have HX0 := Lib.hid (fun W (hb' : Below w.heap.size w W) => hx.below hb' (Nat.le_refl _))
  have RA := Lib.hid (fun W (hb' : Below w.heap.size w W) hok => refall18_any cf a n c xs W (hx.below hb' (Nat.le_refl _)) hn hok)
  clear hx
  have hln : (xs.map Prod.snd).length = n := by rw [List.length_map, Hl.out]
  have HF1 : Hid (∀ w', cfgOk cf = false → Below w.heap.size w w' → BnPost cf (xs.map Prod.snd) w (.returned (.tuple #[.slice none 0 0, .int .i64 20])) w') := fun w' h hB => bn_none (by unfold bldE; rw [if_neg (by simp [h])]) (by decide) hB
  have HF2 : Hid (∀ w' (i : Nat) (p : RHd × Rc), cfgOk cf = true → xs[i]? = some p → rcE cf p.2 ≠ 0 → Below w.heap.size w w' → BnPost cf (xs.map Prod.snd) w (.returned (.tuple #[.slice none 0 0, .int .i64 2])) w') := fun w' i p h hp he hB => by
    have hf : (xs.map Prod.snd).all (rcOk cf) = false := by
      cases hall : (xs.map Prod.snd).all (rcOk cf) with
      | false => rfl
      | true =>
        rw [List.all_eq_true] at hall
        exact absurd (rcE_zero.2 ⟨h, hall p.2 (List.mem_map_of_mem (List.mem_of_getElem? hp))⟩) he
    exact bn_none (by unfold bldE; rw [if_pos h, hf]; rfl) (by decide) hB
  have hokA : (∀ p ∈ xs, rcE cf p.2 = 0) → (xs.map Prod.snd).all (rcOk cf) = true := fun h => by
    rw [List.all_eq_true]
    intro r hr
    obtain ⟨p, hp, rfl⟩ := List.mem_map.1 hr
    exact (rcE_zero.1 (h p hp)).2
  have hlen : (allP cf (xs.map Prod.snd) (xs.map Prod.snd).length).length = (allQ cf (xs.map Prod.snd) (xs.map Prod.snd).length).length := (allPQ cf (xs.map Prod.snd)).length_eq
  rw [hln] at hlen
  have HF3 : Hid (∀ w', cfgOk cf = true → (∀ p ∈ xs, rcE cf p.2 = 0) → ¬ (allQ cf (xs.map Prod.snd) n).length ≤ 400 → Below w.heap.size w w' → BnPost cf (xs.map Prod.snd) w (.returned (.tuple #[.slice none 0 0, .int .i64 51])) w') := fun w' h h2 h3 hB =>
    bn_none (by unfold bldE; rw [if_pos h, hokA h2, if_pos rfl, hln, hlen, if_neg h3]) (by decide) hB
  have HF4 : Hid (∀ w' ad cd, cfgOk cf = true → (∀ p ∈ xs, rcE cf p.2 = 0) → (allQ cf (xs.map Prod.snd) n).length ≤ 400 → SlR drC 6 w' ad (allQ cf (xs.map Prod.snd) n).length cd (allQ cf (xs.map Prod.snd) n) → Below w.heap.size w w' → BnPost cf (xs.map Prod.snd) w (.returned (.tuple #[.slice ad (allQ cf (xs.map Prod.snd) n).length cd, .int .i64 0])) w') := by
    intro w' ad cd h h2 h3 hr hB
    have hE : bldE cf (xs.map Prod.snd) = 0 := by unfold bldE; rw [if_pos h, hokA h2, if_pos rfl, hln, hlen, if_pos h3]
    have hL : bldL cf (xs.map Prod.snd) = allQ cf (xs.map Prod.snd) n := by unfold bldL; rw [if_pos hE, hln]
    unfold BnPost
    rw [hL, hE]
    exact ⟨ad, cd, rfl, hr, hB⟩
  clear hokA hlen hln
  generalize BnPost cf (xs.map Prod.snd) w = POST at HF1 HF2 HF3 HF4 ⊢
  generalize allQ cf (xs.map Prod.snd) n = AL at RA HF3 HF4
  unfold AddPost at RA
  have hB : Below w.heap.size w (w.alloc (cfO cf)) := (Below.refl _ _).alloc (Nat.le_refl _) _
  have hC := World.alloc_heap_new w (cfO cf)
  obtain ⟨W1, hW1⟩ : ∃ W, W = w.alloc (cfO cf) := ⟨_, rfl⟩
  rw [← hW1] at hB hC
  have HC := Lib.hid hC
  dsimp only [cfO, cfgV] at hC hW1 CF RA ⊢
  have c0 := hcell (k := 0) (v := .int .i64 cf.clear) hC rfl
  have c1 := hcell (k := 1) (v := .int .i64 cf.climb) hC rfl
  have c2 := hcell (k := 2) (v := .int .i64 cf.height) hC rfl
  have c3 := hcell (k := 3) (v := .int .i64 cf.rise) hC rfl
  have c4 := hcell (k := 4) (v := .int .i64 cf.run) hC rfl
  have c5 := hcell (k := 5) (v := .int .i64 cf.w) hC rfl
  have c6 := hcell (k := 6) (v := .int .i64 cf.d) hC rfl
  clear hC
  go_enter Try.func38, Try.ntmps38
  go_upto_region 1 with fail
  rw [← hW1]
  clear hW1
  by_cases hcf : cfgOk cf = true
  case neg =>
    have hE : cfgE cf = 20 := by unfold cfgE; rw [if_neg hcf]
    rw [hE] at CF
    have hF := Lib.hid (fun w' => HF1.out w' (by simpa using hcf))
    go_wp2_with fail
    refine (CF.out _).mono ?_
    rintro e w1 ⟨rfl, hb1⟩
    have hB1 := hB.trans (hb1.mono hB.size)
    clear c0 c1 c2 c3 c4 c5 c6
    have hP := hF.out _ hB1
    go_wp2
    first
      | exact hP
      | (go_ret2; exact hP)
  have hE : cfgE cf = 0 := by unfold cfgE; rw [if_pos hcf]
  rw [hE] at CF
  clear hE HF1
  go_wp2_with fail
  refine (CF.out _).mono ?_
  rintro e w1 ⟨rfl, hb1⟩
  have HC1 := Lib.hid (hkeep hb1 HC.out)
  have hB1 := hB.trans (hb1.mono hB.size)
  clear c0 c1 c2 c3 c4 c5 c6 HC hb1 hB CF
  go_wp2_with fail
  go_loopw [7] (fun s wr => ∃ i : Nat, s = .int .i64 (i : Nat) ∧ i ≤ n ∧ Hid (∀ k p, k < i → xs[k]? = some p → rcE cf p.2 = 0) ∧ Hid (wr.heap[w.heap.size]? = some (cfO cf)) ∧ Below w.heap.size w wr) (fun s _ => n - (intOf s).toNat)
  case atStart => exact ⟨0, rfl, Nat.zero_le _, fun k p h => by omega, HC1.out, hB1⟩
  case round =>
    clear HC1 hB1
    obtain ⟨i, rfl, hi, HOK, HC, hBr⟩ := hrel
    have hC := HC.out
    have c0 := hcell (k := 0) (v := .int .i64 cf.clear) hC rfl
    have c1 := hcell (k := 1) (v := .int .i64 cf.climb) hC rfl
    have c2 := hcell (k := 2) (v := .int .i64 cf.height) hC rfl
    have c3 := hcell (k := 3) (v := .int .i64 cf.rise) hC rfl
    have c4 := hcell (k := 4) (v := .int .i64 cf.run) hC rfl
    have c5 := hcell (k := 5) (v := .int .i64 cf.w) hC rfl
    have c6 := hcell (k := 6) (v := .int .i64 cf.d) hC rfl
    clear hC
    by_cases hin : i < n
    case neg =>
      obtain rfl : i = n := by omega
      have hinI : ¬ (i : Int) < (i : Int) := by omega
      have hokAll : ∀ p ∈ xs, rcE cf p.2 = 0 := fun p hp => by
        obtain ⟨k, hk, rfl⟩ := List.getElem_of_mem hp
        exact HOK.out k _ (by have := Hl.out; omega) (List.getElem?_eq_getElem hk)
      have HOA := Lib.hid hokAll
      clear hokAll
      go_wp2_with fail
      refine (RA.out _ hBr HOA.out).mono ?_
      rintro e w2 ⟨s2, rfl, hO2, hb2⟩
      obtain ⟨x2, k2, rfl, hSl⟩ := OwnR.reads drC_len hO2
      have hB2 := hBr.trans (hb2.mono hBr.size)
      clear c0 c1 c2 c3 c4 c5 c6 hO2 hb2 RA
      by_cases h400 : AL.length ≤ 400
      · have h4I : ¬ (400 : Int) < (AL.length : Int) := by omega
        have hP := HF4.out w2 _ _ hcf HOA.out h400 hSl hB2
        go_wp2
        first
          | exact hP
          | (go_ret2; exact hP)
      · have h4I : (400 : Int) < (AL.length : Int) := by omega
        have hP := HF3.out w2 hcf HOA.out h400 hB2
        go_wp2
        first
          | exact hP
          | (go_ret2; exact hP)
    have hinI : (i : Int) < (n : Int) := by omega
    obtain ⟨⟨hr, rr⟩, hxi⟩ : ∃ x, xs[i]? = some x := ⟨_, List.getElem?_eq_getElem (by rw [Hl.out]; exact hin)⟩
    obtain ⟨G, off, rfl, _, _⟩ := (HX0.out _ hBr).sl.at0 (by omega)
    have hw := HX0.out _ hBr
    have RC := Lib.hid (fun d os => refcheck17_any cf hr rr (grow (redrawn wr d) os) ((HX0.out _ (hBr.trans ((below_regrown wr d os).mono hBr.size))).one hxi))
    dsimp only [cfgV, rcV] at RC
    have r0 := hw.at hxi 0 _ rfl
    have r1 := hw.at hxi 1 _ rfl
    have r2 := hw.at hxi 2 _ rfl
    have r3 := hw.at hxi 3 _ rfl
    have r4 := hw.at hxi 4 _ rfl
    have r5 := hw.at hxi 5 _ rfl
    have r6 := hw.at hxi 6 _ rfl
    simp only [Nat.add_zero] at r0
    go_upto_region 7 with fail
    have e_c0 := fun d os => cell_regrown c0 d os
    have e_c1 := fun d os => cell_regrown c1 d os
    have e_c2 := fun d os => cell_regrown c2 d os
    have e_c3 := fun d os => cell_regrown c3 d os
    have e_c4 := fun d os => cell_regrown c4 d os
    have e_c5 := fun d os => cell_regrown c5 d os
    have e_c6 := fun d os => cell_regrown c6 d os
    have e_r0 := fun d os => cell_regrown r0 d os
    have e_r1 := fun d os => cell_regrown r1 d os
    have e_r2 := fun d os => cell_regrown r2 d os
    have e_r3 := fun d os => cell_regrown r3 d os
    have e_r4 := fun d os => cell_regrown r4 d os
    have e_r5 := fun d os => cell_regrown r5 d os
    have e_r6 := fun d os => cell_regrown r6 d os
    clear c0 c1 c2 c3 c4 c5 c6 r0 r1 r2 r3 r4 r5 r6 hw
    by_cases q0 : rcE cf rr = 0
    case neg =>
      have q0B : (rcE cf rr != 0) = true := by simpa using q0
      have hF := Lib.hid (fun w' => HF2.out w' i _ hcf hxi q0)
      generalize rcE cf rr = qe at RC q0 q0B
      refine wp_region_quiet_below (by kernel_rfl) (by kernel_rfl) ?_
      repeat (go_big_quiet_step ((go_at_call 37; with_reducible exact Calls.regrown_of (RC.out _ _))))
      refine wpQuiet_nil ?_
      rintro w4 ⟨⟨dq, osq⟩, hw4⟩
      have hb4 : Below wr.heap.size wr w4 := by rw [hw4]; exact below_regrown wr dq osq
      clear hw4 e_c0 e_c1 e_c2 e_c3 e_c4 e_c5 e_c6 e_r0 e_r1 e_r2 e_r3 e_r4 e_r5 e_r6
      have hB4 := hBr.trans (hb4.mono hBr.size)
      have hP := hF.out _ hB4
      go_wp2
      first
        | exact hP
        | (go_ret2; exact hP)
    have HOK2 : Hid (∀ k p, k < i + 1 → xs[k]? = some p → rcE cf p.2 = 0) := fun k p hk hp => by
      by_cases hki : k < i
      · exact HOK.out k p hki hp
      · obtain rfl : k = i := by omega
        rw [hxi] at hp
        cases hp
        exact q0
    rw [q0] at RC
    have wi1 : IntKind.i64.wrap ((i : Int) + 1) = ((i + 1 : Nat) : Int) := by rw [IntKind.wrap_i64]; omega
    refine wp_region_quiet_below (by kernel_rfl) (by kernel_rfl) ?_
    repeat (go_big_quiet_step ((go_at_call 37; with_reducible exact Calls.regrown_of (RC.out _ _))))
    refine wpQuiet_nil ?_
    rintro w4 ⟨⟨dq, osq⟩, hw4⟩
    have hb4 : Below wr.heap.size wr w4 := by rw [hw4]; exact below_regrown wr dq osq
    clear hw4 e_c0 e_c1 e_c2 e_c3 e_c4 e_c5 e_c6 e_r0 e_r1 e_r2 e_r3 e_r4 e_r5 e_r6
    have hB4 := hBr.trans (hb4.mono hBr.size)
    have HC4 := Lib.hid (hkeep hb4 HC.out)
    go_wp2
    go_roundw
    case rel => exact ⟨i + 1, by go_num, by omega, HOK2, HC4.out, hB4⟩
    case measure => simp [intOf]; omega
end Go.Proofs.Ytgfmdgiepomkiaa
