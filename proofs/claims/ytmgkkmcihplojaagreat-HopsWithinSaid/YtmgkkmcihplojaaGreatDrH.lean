/- Walk: doors.Build at a row of rectangles. -/
import Derived.Test.YtmgkkmcihplojaaGreatKe
import Derived.Test.YtmgkkmcihplojaaGreatBtw
import Derived.Test.YtmgkkmcihplojaaGreatKa
import Derived.Test.YtmgkkmcihplojaaGreatKg
import Derived.Test.YtmgkkmcihplojaaGreatSmD
namespace Go.Proofs.YtmgkkmcihplojaaGreat
open Go.RowKit Go.Sort

/-- What doors.Build tells. -/
def bldL (cf : Cfg) (rs : List Rc) : List Dr := if bldE cf rs = 0 then allQ cf rs rs.length else []
def BnPost (cf : Cfg) (rs : List Rc) (w : World) (e : Ending) (w' : World) : Prop := ∃ a c, e = .returned (.tuple #[.slice a (bldL cf rs).length c, .int .i64 (bldE cf rs)]) ∧ SlR drC 6 w' a (bldL cf rs).length c (bldL cf rs) ∧ Below w.heap.size w w'
set_option linter.unusedVariables false in
def BnInv (T G off n c k b : Nat) (cf : Cfg) (ha : RHd) (ra : Rc) (hb : RHd) (rb : Rc) (xs : List (RHd × Rc)) (H : Nat) (w1 : World) (F : Value → Value → Value → Value → Value → Value → Value → Value → Value → Value → Value → Value → Array Value) (D : List Deferred) (L : Array Bool) (a : Act) (w : World) : Prop :=
  ∃ (s0 s1 s2 s3 s4 s5 s6 s7 s8 s9 s10 s11 : Value), a = { tmps := F s0 s1 s2 s3 s4 s5 s6 s7 s8 s9 s10 s11, defers := D } ∧
    Below H w1 w ∧
    w.heap[T]? = some (cfO cf) ∧
    (L.getD 0 false = true → s0 = .agg #[.int .i64 cf.clear, .int .i64 cf.climb, .int .i64 cf.height, .int .i64 cf.rise, .int .i64 cf.run, .int .i64 cf.w, .int .i64 cf.d]) ∧
    (L.getD 1 false = true → s1 = .slice (some ⟨G, off, none⟩) n c) ∧
    (L.getD 2 false = true → s2 = .int .i64 (k : Nat)) ∧
    (L.getD 3 false = true → s3 = .pointer (some ⟨G, off + k * 7, none⟩)) ∧
    (L.getD 4 false = true → s4 = rcV ha ra) ∧
    (L.getD 5 false = true → s5 = .slice (some ⟨G, off, none⟩) n c) ∧
    (L.getD 6 false = true → s6 = .int .i64 (b : Nat)) ∧
    (L.getD 7 false = true → s7 = .pointer (some ⟨G, off + b * 7, none⟩)) ∧
    (L.getD 8 false = true → s8 = rcV hb rb) ∧
    (L.getD 9 false = true → DrAt w1.heap.size (betw cf ra rb) s9 w) ∧
    (L.getD 10 false = true → s10 = .int .i64 ((betw cf ra rb).length : Nat)) ∧
    (L.getD 11 false = true → s11 = .int .i64 0)
theorem own_len' {α : Type} {f : α → List Value} {sz : Nat} {e : TypeId} {B : Nat} {w : World} {v : Value} {n : Nat} {xs : List α} (h : OwnR f sz e B w v n xs) : OwnR f sz e B w v xs.length xs := by rw [h.1]; exact h
theorem bn_none {cf : Cfg} {rs : List Rc} {w w' : World} {E : Int} (hE : bldE cf rs = E) (h0 : E ≠ 0) (hB : Below w.heap.size w w') : BnPost cf rs w (.returned (.tuple #[.slice none 0 0, .int .i64 E])) w' := by
  have hL : bldL cf rs = [] := by unfold bldL; rw [hE, if_neg h0]
  unfold BnPost
  rw [hL, hE]
  exact ⟨none, 0, rfl, SlR.nil _ _ _, hB⟩
theorem any_ok {cf : Cfg} {xs : List (RHd × Rc)} (hc : cfgOk cf = true) : (xs.any fun x => rcE cf x.2 != 0) = !((xs.map Prod.snd).all (rcOk cf)) := by
  rw [List.all_map, List.all_eq_not_any_not, Bool.not_not]
  congr 1
  funext x
  simp only [Function.comp]
  unfold rcE
  rw [if_pos hc]
  cases rcOk cf x.2 <;> simp
theorem tag_take {D : List Dr} {k b j : Nat} {d : Dr} (h : D[j]? = some d) : (D.take (j + 1)).map (tagD k b) = (D.take j).map (tagD k b) ++ [tagD k b d] := by
  obtain ⟨hj, he⟩ := List.getElem?_eq_some_iff.1 h
  rw [List.take_succ_eq_append_getElem hj, he, List.map_append]
  rfl
set_option maxRecDepth 100000 in
set_option maxHeartbeats 16000000 in
theorem dbuild_any (cf : Cfg) (a : Option Addr) (n c : Nat) (xs : List (RHd × Rc)) (w : World) (hx : SlRc w a n c xs) (hn : n ≤ 200) :
    Calls Tryz.prog 45 #[cfgV cf, .slice a n c] w (BnPost cf (xs.map Prod.snd) w) := by
  have CF := Lib.hid (fun W => cfgcheck_any cf W)
  have CC := Lib.hid (fun T W hT hx => contrct_any cf T a n c xs W hT hx)
  have Hl := Lib.hid hx.sl.len
  have hmax := hx.sl.max
  have hle := hx.sl.le
  have HX0 := Lib.hid (fun W (hb' : Below w.heap.size w W) => hx.below hb' (Nat.le_refl _))
  clear hx
  have HA := Lib.hid (allP_succ cf (xs.map Prod.snd))
  have HR := Lib.hid (rowP_succ cf (xs.map Prod.snd))
  have HP := Lib.hid (fun k b (p q : RHd × Rc) (hp : xs[k]? = some p) (hq : xs[b]? = some q) => pairD_at (cf := cf) (rs := xs.map Prod.snd) (a := k) (b := b) (p := p.2) (q := q.2) (by rw [List.getElem?_map, hp]; rfl) (by rw [List.getElem?_map, hq]; rfl))
  have HLA := Lib.hid (fun k (hk : k ≤ 200) => allP_len (cf := cf) (rs := xs.map Prod.snd) (k := k) (m := 200) hk)
  have HLR := Lib.hid (rowP_len cf (xs.map Prod.snd))
  have HLP := Lib.hid (betw_len cf)
  have HF1 : Hid (∀ w', cfgOk cf = false → Below w.heap.size w w' → BnPost cf (xs.map Prod.snd) w (.returned (.tuple #[.slice none 0 0, .int .i64 20])) w') := fun w' h hB => bn_none (by unfold bldE; rw [if_neg (by simp [h])]) (by decide) hB
  have HF2 : Hid (∀ w', cfgOk cf = true → (xs.any fun x => rcE cf x.2 != 0) = true → Below w.heap.size w w' → BnPost cf (xs.map Prod.snd) w (.returned (.tuple #[.slice none 0 0, .int .i64 2])) w') := fun w' h h2 hB => bn_none (by rw [any_ok h] at h2; unfold bldE; rw [if_pos h, if_neg (by simpa using h2)]) (by decide) hB
  have HF3 : Hid (∀ w', cfgOk cf = true → (xs.any fun x => rcE cf x.2 != 0) = false → ¬ (allP cf (xs.map Prod.snd) n).length ≤ 400 → Below w.heap.size w w' → BnPost cf (xs.map Prod.snd) w (.returned (.tuple #[.slice none 0 0, .int .i64 51])) w') := fun w' h h2 h3 hB => bn_none (by rw [any_ok h] at h2; unfold bldE; rw [if_pos h, if_pos (by simpa using h2), List.length_map, Hl.out, if_neg h3]) (by decide) hB
  have HF4 : Hid (∀ w' ad cd ys, cfgOk cf = true → (xs.any fun x => rcE cf x.2 != 0) = false → (allP cf (xs.map Prod.snd) n).length ≤ 400 → ys.Perm (allP cf (xs.map Prod.snd) n) → ys.Pairwise (fun p q => ¬ ltD q p) → SlR drC 6 w' ad (allP cf (xs.map Prod.snd) n).length cd ys → Below w.heap.size w w' → BnPost cf (xs.map Prod.snd) w (.returned (.tuple #[.slice ad (allP cf (xs.map Prod.snd) n).length cd, .int .i64 0])) w') := by
    intro w' ad cd ys h h2 h3 hp hs hr hB
    have hln : (xs.map Prod.snd).length = n := by rw [List.length_map, Hl.out]
    rw [any_ok h] at h2
    have hE : bldE cf (xs.map Prod.snd) = 0 := by unfold bldE; rw [if_pos h, if_pos (by simpa using h2), hln, if_pos h3]
    rw [← hln] at hp
    have hys := allQ_sorted hp hs
    have hL : bldL cf (xs.map Prod.snd) = ys := by unfold bldL; rw [if_pos hE, hys]
    have hlen : ys.length = (allP cf (xs.map Prod.snd) n).length := by rw [hp.length_eq, hln]
    unfold BnPost
    rw [hL, hE, hlen]
    exact ⟨ad, cd, rfl, hr, hB⟩
  generalize hAP : allP cf (xs.map Prod.snd) = AP at HA HF3 HF4 HLA
  generalize hRP : rowP cf (xs.map Prod.snd) = RP at HA HR HLR
  generalize hPD : pairD cf (xs.map Prod.snd) = PD at HR HP
  have HA0 : Hid (AP 0 = []) := by show _ = _; rw [← hAP]; rfl
  have HR0 : Hid (∀ b, RP b 0 = []) := fun b => by rw [← hRP]; rfl
  clear hAP hRP hPD
  generalize hAN : (xs.any fun x => rcE cf x.2 != 0) = an at CC HF2 HF3 HF4
  clear hAN
  generalize BnPost cf (xs.map Prod.snd) w = POST at HF1 HF2 HF3 HF4 ⊢
  have hB : Below w.heap.size w (w.alloc (cfO cf)) := (Below.refl _ _).alloc (Nat.le_refl _) _
  have hC := World.alloc_heap_new w (cfO cf)
  obtain ⟨W1, hW1⟩ : ∃ W, W = w.alloc (cfO cf) := ⟨_, rfl⟩
  have hsz : (w.alloc (cfO cf)).heap.size = w.heap.size + 1 := by simp
  rw [← hW1] at hB hC hsz
  have HC := Lib.hid hC
  dsimp only [cfO, cfgV] at hC hW1 CF ⊢
  have c0 := hcell (k := 0) (v := .int .i64 cf.clear) hC rfl
  have c1 := hcell (k := 1) (v := .int .i64 cf.climb) hC rfl
  have c2 := hcell (k := 2) (v := .int .i64 cf.height) hC rfl
  have c3 := hcell (k := 3) (v := .int .i64 cf.rise) hC rfl
  have c4 := hcell (k := 4) (v := .int .i64 cf.run) hC rfl
  have c5 := hcell (k := 5) (v := .int .i64 cf.w) hC rfl
  have c6 := hcell (k := 6) (v := .int .i64 cf.d) hC rfl
  clear hC
  go_enter Tryz.func45, Tryz.ntmps45
  go_upto_region 1 with fail
  rw [← hW1]
  clear hW1
  by_cases hcf : cfgOk cf = true
  case neg =>
    have hE : cfgE cf = 20 := by unfold cfgE; rw [if_neg hcf]
    rw [hE] at CF
    go_wp2_with fail
    refine (CF.out _).mono ?_
    rintro e w1 ⟨rfl, hb1⟩
    clear c0 c1 c2 c3 c4 c5 c6
    have hP := HF1.out w1 (by simpa using hcf) (hB.trans (hb1.mono hB.size))
    go_wp2
    first
      | exact hP
      | (go_ret2; exact hP)
  have hE : cfgE cf = 0 := by unfold cfgE; rw [if_pos hcf]
  rw [hE] at CF
  go_wp2_with fail
  refine (CF.out _).mono ?_
  rintro e w1 ⟨rfl, hb1⟩
  clear c0 c1 c2 c3 c4 c5 c6
  have hC1 := hkeep hb1 HC.out
  have hB1 := hB.trans (hb1.mono hB.size)
  have hs1 := hb1.size
  rw [hsz] at hs1
  have HC1 := Lib.hid hC1
  clear hC1 HC hb1 hB
  go_wp2_with fail
  refine (CC.out _ _ HC1.out (HX0.out _ hB1)).mono ?_
  rintro e w2 ⟨rfl, hb2⟩
  have hC2 := hkeep hb2 HC1.out
  have hB2 := hB1.trans (hb2.mono hB1.size)
  have hs2 := Nat.le_trans hs1 hb2.size
  have HC2 := Lib.hid hC2
  clear hC2 HC1 hb2 hB1 hs1
  cases an with
  | true =>
    have hP := HF2.out w2 hcf (by trivial) hB2
    go_wp2
    first
      | exact hP
      | (go_ret2; exact hP)
  | false =>
    go_wp2
    go_loopw [4, 21] (fun v i wr => ∃ b : Nat, i = .int .i64 b ∧ b ≤ n ∧ (∃ X, Hid (X = AP b) ∧ DrAt (w.heap.size + 1) X v wr) ∧ wr.heap[w.heap.size]? = some (cfO cf) ∧ Below w.heap.size w wr ∧ w.heap.size + 1 ≤ wr.heap.size) (fun _ i _ => n - (intOf i).toNat)
    case atStart => exact ⟨0, rfl, Nat.zero_le _, ⟨[], HA0.out.symm, DrAt.mk (OwnR.nil _ _ _ _ _) (Nat.le_refl _)⟩, HC2.out, hB2, hs2⟩
    case round =>
      clear HC2 hB2 hs2
      obtain ⟨b, rfl, hb, ⟨Xb, HXb, hown⟩, hC3, hB3, hs3⟩ := hrel
      have hLb := HLA.out b (by omega)
      by_cases hlt : b < n
      · have hltI : (b : Int) < (n : Int) := by omega
        obtain ⟨⟨hb_, rb⟩, hxb⟩ : ∃ x, xs[b]? = some x := ⟨_, List.getElem?_eq_getElem (by rw [Hl.out]; exact hlt)⟩
        go_wp2
        go_loopw [4, 25] (fun v i wr => ∃ k : Nat, i = .int .i64 k ∧ k ≤ b ∧ (∃ X, Hid (X = AP b ++ RP b k) ∧ DrAt (w.heap.size + 1) X v wr) ∧ wr.heap[w.heap.size]? = some (cfO cf) ∧ Below w.heap.size w wr ∧ w.heap.size + 1 ≤ wr.heap.size) (fun _ i _ => b - (intOf i).toNat)
        case atStart => exact ⟨0, rfl, Nat.zero_le _, ⟨Xb, (show _ = _ by rw [HR0.out, List.append_nil]; exact HXb.out), hown⟩, hC3, hB3, hs3⟩
        case round =>
          clear hC3 hB3 hs3 hown
          obtain ⟨k, rfl, hk, ⟨X, HX, hown⟩, hC4, hB4, hs4⟩ := hrel
          have HC4 := Lib.hid hC4
          obtain ⟨va, vc, rfl, hown⟩ := hown
          have hLk := HLR.out b k
          by_cases hlt2 : k < b
          · have hkI : (k : Int) < (b : Int) := by omega
            have hkI2 : (k : Int) < (n : Int) := by omega
            obtain ⟨⟨ha_, ra⟩, hxk⟩ : ∃ x, xs[k]? = some x := ⟨_, List.getElem?_eq_getElem (by rw [Hl.out]; omega)⟩
            have hPD := HP.out k b _ _ hxk hxb
            have hRP := HR.out b k
            rw [hPD] at hRP
            have HRP := Lib.hid hRP
            clear hPD hRP
            dsimp only at HRP
            obtain ⟨G, off, rfl, _, _⟩ := (HX0.out _ hB4).sl.at0 (by omega)
            have HX4 : Hid (∀ W, Below wr.heap.size wr W → SlRc W (some ⟨G, off, none⟩) n c xs) := fun W hbW => HX0.out W (hB4.trans (hbW.mono hB4.size))
            have CB : Hid (∀ W, SlRc W (some ⟨G, off, none⟩) n c xs → Calls Tryz.prog 62 #[cfgV cf, rcV ha_ ra, rcV hb_ rb] W (BtwPost cf ra rb W)) := fun W hW => betw_any cf ha_ ra hb_ rb W (hW.one hxk) (hW.one hxb)
            unfold BtwPost at CB
            dsimp only [cfgV] at CB
            have hLD := HLP.out ra rb
            go_wp2_with fail
            refine wp_region_inv (BnInv w.heap.size G off n c k b cf ha_ ra hb_ rb xs wr.heap.size wr (fun s0 s1 s2 s3 s4 s5 s6 s7 s8 s9 s10 s11 => #[Value.agg #[Value.int IntKind.i64 cf.clear, Value.int IntKind.i64 cf.climb, Value.int IntKind.i64 cf.height, Value.int IntKind.i64 cf.rise, Value.int IntKind.i64 cf.run, Value.int IntKind.i64 cf.w, Value.int IntKind.i64 cf.d], Value.slice (some { block := G, off := off }) n c, Value.pointer (some { block := w.heap.size, off := 0 }), undef, Value.slice va X.length vc, Value.int IntKind.i64 0, Value.int IntKind.i64 0, Value.int IntKind.i64 ↑b, Value.int IntKind.i64 ↑k, undef, u10, Value.agg #[Value.int IntKind.i64 cf.clear, Value.int IntKind.i64 cf.climb, Value.int IntKind.i64 cf.height, Value.int IntKind.i64 cf.rise, Value.int IntKind.i64 cf.run, Value.int IntKind.i64 cf.w, Value.int IntKind.i64 cf.d], Value.int IntKind.i64 0, Value.int IntKind.i64 0, Value.bool false, undef, Value.slice (some { block := G, off := off }) n c, Value.func (Fn.func 61) #[] #[Value.pointer (some { block := w.heap.size, off := 0 })], Value.bool false, Value.slice (some { block := G, off := off }) n c, Value.int IntKind.i64 ↑n, Value.int IntKind.i64 ↑b, Value.bool true, Value.int IntKind.i64 ↑b, Value.int IntKind.i64 ↑b, Value.int IntKind.i64 ↑k, Value.bool true, Value.int IntKind.i64 ↑k, s0, s1, s2, s3, s4, s5, s6, s7, s8, s9, s10, s11, u40, u41, u42, u43, u44, u45, u46, u47, u48, u49, u50, u51, u52, u53, undef, undef, undef, undef, undef, undef]) []) (by kernel_rfl) (by kernel_rfl) ?_ ?_ ?_
            · unfold BnInv
              refine ⟨_, _, _, _, _, _, _, _, _, _, _, _, rfl, (Below.refl _ _).drew, HC4.out, (fun h => by cases (show false = true from h)), (fun h => by cases (show false = true from h)), (fun h => by cases (show false = true from h)), (fun h => by cases (show false = true from h)), (fun h => by cases (show false = true from h)), (fun h => by cases (show false = true from h)), (fun h => by cases (show false = true from h)), (fun h => by cases (show false = true from h)), (fun h => by cases (show false = true from h)), (fun h => by cases (show false = true from h)), (fun h => by cases (show false = true from h)), (fun h => by cases (show false = true from h))⟩
            · intro L a wi i hs hI hi
              have hsN : L.size = 12 := hs
              have hn := ready_elim hi
              have hlt : i < 12 := by
                  obtain ⟨o, ho, _⟩ := hn.2
                  exact (Array.getElem?_eq_some_iff.1 ho).1
              have hi' := ready_not hi false (by rw [hs]; exact hlt)
              clear hn
              unfold BnInv at hI
              obtain ⟨s0, s1, s2, s3, s4, s5, s6, s7, s8, s9, s10, s11, rfl, hB, hF_C, h0, h1, h2, h3, h4, h5, h6, h7, h8, h9, h10, h11⟩ := hI
              rcases (by omega : i = 0 ∨ i = 1 ∨ i = 2 ∨ i = 3 ∨ i = 4 ∨ i = 5 ∨ i = 6 ∨ i = 7 ∨ i = 8 ∨ i = 9 ∨ i = 10 ∨ i = 11) with rfl | rfl | rfl | rfl | rfl | rfl | rfl | rfl | rfl | rfl | rfl | rfl
              · skip
                have c0 := hcell (k := 0) (v := .int .i64 cf.clear) hF_C rfl
                have c1 := hcell (k := 1) (v := .int .i64 cf.climb) hF_C rfl
                have c2 := hcell (k := 2) (v := .int .i64 cf.height) hF_C rfl
                have c3 := hcell (k := 3) (v := .int .i64 cf.rise) hF_C rfl
                have c4 := hcell (k := 4) (v := .int .i64 cf.run) hF_C rfl
                have c5 := hcell (k := 5) (v := .int .i64 cf.w) hF_C rfl
                have c6 := hcell (k := 6) (v := .int .i64 cf.d) hF_C rfl
                refine wpOp_of rfl rfl ?_
                go_simp
                unfold BnInv
                exact ⟨_, _, _, _, _, _, _, _, _, _, _, _, rfl, (hB), (hF_C), (fun _ => rfl), (fun h => h1 (by rwa [getD_set_ne (by decide)] at h)), (fun h => h2 (by rwa [getD_set_ne (by decide)] at h)), (fun h => h3 (by rwa [getD_set_ne (by decide)] at h)), (fun h => h4 (by rwa [getD_set_ne (by decide)] at h)), (fun h => h5 (by rwa [getD_set_ne (by decide)] at h)), (fun h => h6 (by rwa [getD_set_ne (by decide)] at h)), (fun h => h7 (by rwa [getD_set_ne (by decide)] at h)), (fun h => h8 (by rwa [getD_set_ne (by decide)] at h)), (fun h => h9 (by rwa [getD_set_ne (by decide)] at h)), (fun h => h10 (by rwa [getD_set_ne (by decide)] at h)), (fun h => h11 (by rwa [getD_set_ne (by decide)] at h))⟩
              · skip
                refine wpOp_of rfl rfl ?_
                go_simp
                unfold BnInv
                exact ⟨_, _, _, _, _, _, _, _, _, _, _, _, rfl, (hB), (hF_C), (fun h => h0 (by rwa [getD_set_ne (by decide)] at h)), (fun _ => rfl), (fun h => h2 (by rwa [getD_set_ne (by decide)] at h)), (fun h => h3 (by rwa [getD_set_ne (by decide)] at h)), (fun h => h4 (by rwa [getD_set_ne (by decide)] at h)), (fun h => h5 (by rwa [getD_set_ne (by decide)] at h)), (fun h => h6 (by rwa [getD_set_ne (by decide)] at h)), (fun h => h7 (by rwa [getD_set_ne (by decide)] at h)), (fun h => h8 (by rwa [getD_set_ne (by decide)] at h)), (fun h => h9 (by rwa [getD_set_ne (by decide)] at h)), (fun h => h10 (by rwa [getD_set_ne (by decide)] at h)), (fun h => h11 (by rwa [getD_set_ne (by decide)] at h))⟩
              · skip
                refine wpOp_of rfl rfl ?_
                go_simp
                unfold BnInv
                exact ⟨_, _, _, _, _, _, _, _, _, _, _, _, rfl, (hB), (hF_C), (fun h => h0 (by rwa [getD_set_ne (by decide)] at h)), (fun h => h1 (by rwa [getD_set_ne (by decide)] at h)), (fun _ => rfl), (fun h => h3 (by rwa [getD_set_ne (by decide)] at h)), (fun h => h4 (by rwa [getD_set_ne (by decide)] at h)), (fun h => h5 (by rwa [getD_set_ne (by decide)] at h)), (fun h => h6 (by rwa [getD_set_ne (by decide)] at h)), (fun h => h7 (by rwa [getD_set_ne (by decide)] at h)), (fun h => h8 (by rwa [getD_set_ne (by decide)] at h)), (fun h => h9 (by rwa [getD_set_ne (by decide)] at h)), (fun h => h10 (by rwa [getD_set_ne (by decide)] at h)), (fun h => h11 (by rwa [getD_set_ne (by decide)] at h))⟩
              · skip
                have e1 := h1 (ready_dep hi (by kernel_rfl))
                subst e1
                have e2 := h2 (ready_dep hi (by kernel_rfl))
                subst e2
                refine wpOp_of rfl rfl ?_
                go_simp
                unfold BnInv
                exact ⟨_, _, _, _, _, _, _, _, _, _, _, _, rfl, (hB), (hF_C), (fun h => h0 (by rwa [getD_set_ne (by decide)] at h)), (fun h => h1 (by rwa [getD_set_ne (by decide)] at h)), (fun h => h2 (by rwa [getD_set_ne (by decide)] at h)), (fun _ => rfl), (fun h => h4 (by rwa [getD_set_ne (by decide)] at h)), (fun h => h5 (by rwa [getD_set_ne (by decide)] at h)), (fun h => h6 (by rwa [getD_set_ne (by decide)] at h)), (fun h => h7 (by rwa [getD_set_ne (by decide)] at h)), (fun h => h8 (by rwa [getD_set_ne (by decide)] at h)), (fun h => h9 (by rwa [getD_set_ne (by decide)] at h)), (fun h => h10 (by rwa [getD_set_ne (by decide)] at h)), (fun h => h11 (by rwa [getD_set_ne (by decide)] at h))⟩
              · skip
                have e3 := h3 (ready_dep hi (by kernel_rfl))
                subst e3
                have hw := HX4.out wi hB
                have c0 := hw.at hxk 0 _ rfl
                simp only [Nat.add_zero] at c0
                have c1 := hw.at hxk 1 _ rfl
                have c2 := hw.at hxk 2 _ rfl
                have c3 := hw.at hxk 3 _ rfl
                have c4 := hw.at hxk 4 _ rfl
                have c5 := hw.at hxk 5 _ rfl
                have c6 := hw.at hxk 6 _ rfl
                refine wpOp_of rfl rfl ?_
                go_simp
                unfold BnInv
                exact ⟨_, _, _, _, _, _, _, _, _, _, _, _, rfl, (hB), (hF_C), (fun h => h0 (by rwa [getD_set_ne (by decide)] at h)), (fun h => h1 (by rwa [getD_set_ne (by decide)] at h)), (fun h => h2 (by rwa [getD_set_ne (by decide)] at h)), (fun h => h3 (by rwa [getD_set_ne (by decide)] at h)), (fun _ => rfl), (fun h => h5 (by rwa [getD_set_ne (by decide)] at h)), (fun h => h6 (by rwa [getD_set_ne (by decide)] at h)), (fun h => h7 (by rwa [getD_set_ne (by decide)] at h)), (fun h => h8 (by rwa [getD_set_ne (by decide)] at h)), (fun h => h9 (by rwa [getD_set_ne (by decide)] at h)), (fun h => h10 (by rwa [getD_set_ne (by decide)] at h)), (fun h => h11 (by rwa [getD_set_ne (by decide)] at h))⟩
              · skip
                refine wpOp_of rfl rfl ?_
                go_simp
                unfold BnInv
                exact ⟨_, _, _, _, _, _, _, _, _, _, _, _, rfl, (hB), (hF_C), (fun h => h0 (by rwa [getD_set_ne (by decide)] at h)), (fun h => h1 (by rwa [getD_set_ne (by decide)] at h)), (fun h => h2 (by rwa [getD_set_ne (by decide)] at h)), (fun h => h3 (by rwa [getD_set_ne (by decide)] at h)), (fun h => h4 (by rwa [getD_set_ne (by decide)] at h)), (fun _ => rfl), (fun h => h6 (by rwa [getD_set_ne (by decide)] at h)), (fun h => h7 (by rwa [getD_set_ne (by decide)] at h)), (fun h => h8 (by rwa [getD_set_ne (by decide)] at h)), (fun h => h9 (by rwa [getD_set_ne (by decide)] at h)), (fun h => h10 (by rwa [getD_set_ne (by decide)] at h)), (fun h => h11 (by rwa [getD_set_ne (by decide)] at h))⟩
              · skip
                refine wpOp_of rfl rfl ?_
                go_simp
                unfold BnInv
                exact ⟨_, _, _, _, _, _, _, _, _, _, _, _, rfl, (hB), (hF_C), (fun h => h0 (by rwa [getD_set_ne (by decide)] at h)), (fun h => h1 (by rwa [getD_set_ne (by decide)] at h)), (fun h => h2 (by rwa [getD_set_ne (by decide)] at h)), (fun h => h3 (by rwa [getD_set_ne (by decide)] at h)), (fun h => h4 (by rwa [getD_set_ne (by decide)] at h)), (fun h => h5 (by rwa [getD_set_ne (by decide)] at h)), (fun _ => rfl), (fun h => h7 (by rwa [getD_set_ne (by decide)] at h)), (fun h => h8 (by rwa [getD_set_ne (by decide)] at h)), (fun h => h9 (by rwa [getD_set_ne (by decide)] at h)), (fun h => h10 (by rwa [getD_set_ne (by decide)] at h)), (fun h => h11 (by rwa [getD_set_ne (by decide)] at h))⟩
              · skip
                have e5 := h5 (ready_dep hi (by kernel_rfl))
                subst e5
                have e6 := h6 (ready_dep hi (by kernel_rfl))
                subst e6
                refine wpOp_of rfl rfl ?_
                go_simp
                unfold BnInv
                exact ⟨_, _, _, _, _, _, _, _, _, _, _, _, rfl, (hB), (hF_C), (fun h => h0 (by rwa [getD_set_ne (by decide)] at h)), (fun h => h1 (by rwa [getD_set_ne (by decide)] at h)), (fun h => h2 (by rwa [getD_set_ne (by decide)] at h)), (fun h => h3 (by rwa [getD_set_ne (by decide)] at h)), (fun h => h4 (by rwa [getD_set_ne (by decide)] at h)), (fun h => h5 (by rwa [getD_set_ne (by decide)] at h)), (fun h => h6 (by rwa [getD_set_ne (by decide)] at h)), (fun _ => rfl), (fun h => h8 (by rwa [getD_set_ne (by decide)] at h)), (fun h => h9 (by rwa [getD_set_ne (by decide)] at h)), (fun h => h10 (by rwa [getD_set_ne (by decide)] at h)), (fun h => h11 (by rwa [getD_set_ne (by decide)] at h))⟩
              · skip
                have e7 := h7 (ready_dep hi (by kernel_rfl))
                subst e7
                have hw := HX4.out wi hB
                have c0 := hw.at hxb 0 _ rfl
                simp only [Nat.add_zero] at c0
                have c1 := hw.at hxb 1 _ rfl
                have c2 := hw.at hxb 2 _ rfl
                have c3 := hw.at hxb 3 _ rfl
                have c4 := hw.at hxb 4 _ rfl
                have c5 := hw.at hxb 5 _ rfl
                have c6 := hw.at hxb 6 _ rfl
                refine wpOp_of rfl rfl ?_
                go_simp
                unfold BnInv
                exact ⟨_, _, _, _, _, _, _, _, _, _, _, _, rfl, (hB), (hF_C), (fun h => h0 (by rwa [getD_set_ne (by decide)] at h)), (fun h => h1 (by rwa [getD_set_ne (by decide)] at h)), (fun h => h2 (by rwa [getD_set_ne (by decide)] at h)), (fun h => h3 (by rwa [getD_set_ne (by decide)] at h)), (fun h => h4 (by rwa [getD_set_ne (by decide)] at h)), (fun h => h5 (by rwa [getD_set_ne (by decide)] at h)), (fun h => h6 (by rwa [getD_set_ne (by decide)] at h)), (fun h => h7 (by rwa [getD_set_ne (by decide)] at h)), (fun _ => rfl), (fun h => h9 (by rwa [getD_set_ne (by decide)] at h)), (fun h => h10 (by rwa [getD_set_ne (by decide)] at h)), (fun h => h11 (by rwa [getD_set_ne (by decide)] at h))⟩
              · skip
                have e0 := h0 (ready_dep hi (by kernel_rfl))
                subst e0
                have e4 := h4 (ready_dep hi (by kernel_rfl))
                subst e4
                have e8 := h8 (ready_dep hi (by kernel_rfl))
                subst e8
                refine wpOp_of rfl rfl ?_
                go_simp
                go_at_call 62
                refine (CB.out wi (HX4.out wi hB)).mono ?_
                rintro e wz ⟨v, rfl, hown, hbz⟩
                (try go_simp)
                unfold BnInv
                exact ⟨_, _, _, _, _, _, _, _, _, _, _, _, rfl, (hB.trans (hbz.mono (Nat.le_trans (Nat.le_refl _) hB.size))), (hkeep hbz hF_C), (fun h => h0 (by rwa [getD_set_ne (by decide)] at h)), (fun h => h1 (by rwa [getD_set_ne (by decide)] at h)), (fun h => h2 (by rwa [getD_set_ne (by decide)] at h)), (fun h => h3 (by rwa [getD_set_ne (by decide)] at h)), (fun h => h4 (by rwa [getD_set_ne (by decide)] at h)), (fun h => h5 (by rwa [getD_set_ne (by decide)] at h)), (fun h => h6 (by rwa [getD_set_ne (by decide)] at h)), (fun h => h7 (by rwa [getD_set_ne (by decide)] at h)), (fun h => h8 (by rwa [getD_set_ne (by decide)] at h)), (fun _ => DrAt.mk hown hB.size), (fun h => h10 (by rwa [getD_set_ne (by decide)] at h)), (fun h => h11 (by rwa [getD_set_ne (by decide)] at h))⟩
              · skip
                have g9 := h9 (ready_dep hi (by kernel_rfl))
                obtain ⟨xa, xc, rfl, hop⟩ := g9
                refine wpOp_of rfl rfl ?_
                go_simp
                unfold BnInv
                exact ⟨_, _, _, _, _, _, _, _, _, _, _, _, rfl, (hB), (hF_C), (fun h => h0 (by rwa [getD_set_ne (by decide)] at h)), (fun h => h1 (by rwa [getD_set_ne (by decide)] at h)), (fun h => h2 (by rwa [getD_set_ne (by decide)] at h)), (fun h => h3 (by rwa [getD_set_ne (by decide)] at h)), (fun h => h4 (by rwa [getD_set_ne (by decide)] at h)), (fun h => h5 (by rwa [getD_set_ne (by decide)] at h)), (fun h => h6 (by rwa [getD_set_ne (by decide)] at h)), (fun h => h7 (by rwa [getD_set_ne (by decide)] at h)), (fun h => h8 (by rwa [getD_set_ne (by decide)] at h)), (fun h => h9 (by rwa [getD_set_ne (by decide)] at h)), (fun _ => rfl), (fun h => h11 (by rwa [getD_set_ne (by decide)] at h))⟩
              · skip
                refine wpOp_of rfl rfl ?_
                go_simp
                unfold BnInv
                exact ⟨_, _, _, _, _, _, _, _, _, _, _, _, rfl, (hB), (hF_C), (fun h => h0 (by rwa [getD_set_ne (by decide)] at h)), (fun h => h1 (by rwa [getD_set_ne (by decide)] at h)), (fun h => h2 (by rwa [getD_set_ne (by decide)] at h)), (fun h => h3 (by rwa [getD_set_ne (by decide)] at h)), (fun h => h4 (by rwa [getD_set_ne (by decide)] at h)), (fun h => h5 (by rwa [getD_set_ne (by decide)] at h)), (fun h => h6 (by rwa [getD_set_ne (by decide)] at h)), (fun h => h7 (by rwa [getD_set_ne (by decide)] at h)), (fun h => h8 (by rwa [getD_set_ne (by decide)] at h)), (fun h => h9 (by rwa [getD_set_ne (by decide)] at h)), (fun h => h10 (by rwa [getD_set_ne (by decide)] at h)), (fun _ => rfl)⟩
            · intro L a wi hI hall
              unfold BnInv at hI
              obtain ⟨s0, s1, s2, s3, s4, s5, s6, s7, s8, s9, s10, s11, rfl, hB, hF_C, h0, h1, h2, h3, h4, h5, h6, h7, h8, h9, h10, h11⟩ := hI
              have e0 := h0 (hall 0 (by decide))
              subst e0
              have e1 := h1 (hall 1 (by decide))
              subst e1
              have e2 := h2 (hall 2 (by decide))
              subst e2
              have e3 := h3 (hall 3 (by decide))
              subst e3
              have e4 := h4 (hall 4 (by decide))
              subst e4
              have e5 := h5 (hall 5 (by decide))
              subst e5
              have e6 := h6 (hall 6 (by decide))
              subst e6
              have e7 := h7 (hall 7 (by decide))
              subst e7
              have e8 := h8 (hall 8 (by decide))
              subst e8
              have g9 := h9 (hall 9 (by decide))
              have e10 := h10 (hall 10 (by decide))
              subst e10
              have e11 := h11 (hall 11 (by decide))
              subst e11
              clear hall h9
              obtain ⟨da, dc, rfl, hop⟩ := g9
              obtain ⟨da', dc', e, hD⟩ := OwnR.reads drC_len hop
              cases e
              have hDo : ∀ ad, da = some ad → wr.heap.size ≤ ad.block := fun ad had => by subst had; exact hop.le ad.block rfl
              have hownw := hown.below hB (Nat.le_refl _)
              have hvD : ∀ ad, da = some ad → (Value.slice va X.length vc).ownBlock ≠ some ad.block := fun ad had e => by have := (hown.lt _ e).2; have := hDo ad had; omega
              have hB5 := hB4.trans (hB.mono hB4.size)
              have hs5 : w.heap.size + 1 ≤ wi.heap.size := Nat.le_trans hs4 hB.size
              have hC5 := hF_C
              clear hop hDo hown hB hF_C hB4 hs4 HC4 HX4 CB
              generalize betw cf ra rb = D at HRP hD hLD ⊢
              go_wp2
              go_loopw [4, 39] (fun v i wr => ∃ j : Nat, i = .int .i64 j ∧ j ≤ D.length ∧ (∃ Y, Hid (Y = X ++ (D.take j).map (tagD k b)) ∧ DrAt (w.heap.size + 1) Y v wr) ∧ (∀ ad, da = some ad → v.ownBlock ≠ some ad.block) ∧ SlR drC 6 wr da D.length dc D ∧ wr.heap[w.heap.size]? = some (cfO cf) ∧ Below w.heap.size w wr ∧ w.heap.size + 1 ≤ wr.heap.size) (fun _ i _ => D.length - (intOf i).toNat)
              case atStart =>
                exact ⟨0, rfl, Nat.zero_le _, ⟨X, (show _ = _ by rw [List.take_zero, List.map_nil, List.append_nil]), ⟨va, vc, rfl, hownw⟩⟩, hvD, hD, hC5, hB5, hs5⟩
              case round =>
                clear hownw hvD hD hC5 hB5 hs5
                obtain ⟨j, rfl, hj, ⟨Y, HY, ua, uc, rfl, hown⟩, hvD, hD, hC6, hB6, hs6⟩ := hrel
                have hlen : Y.length = (AP b).length + (RP b k).length + j := by rw [HY.out, List.length_append, HX.out, List.length_append, List.length_map, List.length_take, Nat.min_eq_left hj]
                have hlR : (RP b k).length ≤ 128 * 200 := Nat.le_trans hLk (by omega)
                have hlA : (AP b).length ≤ 128 * 200 * 200 := Nat.le_trans hLb (Nat.mul_le_mul_left _ (by omega))
                have hYl : Y.length ≤ 10000000 := by omega
                clear hlen hlR hlA
                by_cases hjt : j < D.length
                · have hjI : (j : Int) < (D.length : Int) := by omega
                  obtain ⟨d, hdj⟩ : ∃ d, D[j]? = some d := ⟨_, List.getElem?_eq_getElem hjt⟩
                  have HT := Lib.hid (tag_take (k := k) (b := b) hdj)
                  obtain ⟨bd, ofd, rfl, hbd, _⟩ := hD.at0 (by omega)
                  have p0 := SlDr.cells hD hdj 0 _ rfl
                  have p1 := SlDr.cells hD hdj 1 _ rfl
                  have p2 := SlDr.cells hD hdj 2 _ rfl
                  have p3 := SlDr.cells hD hdj 3 _ rfl
                  have p4 := SlDr.cells hD hdj 4 _ rfl
                  have p5 := SlDr.cells hD hdj 5 _ rfl
                  simp only [Nat.add_zero] at p0
                  have hvd := hvD _ rfl
                  clear hdj hvD
                  obtain ⟨da_, db_, dx0, dz0, dx1, dz1⟩ := d
                  dsimp only [tagD] at p0 p1 p2 p3 p4 p5 HT
                  go_upto_region 15 with fail
                  clear p0 p1 p2 p3 p4 p5
                  go_upto_region 16 with fail
                  have hd5 := World.alloc_heap_new wr (.cells #[.int .i64 (k : Nat), .int .i64 (b : Nat), .int .i64 dx0, .int .i64 dz0, .int .i64 dx1, .int .i64 dz1] 110 (0, 0))
                  have hown5 := hown.alloc (.cells #[.int .i64 (k : Nat), .int .i64 (b : Nat), .int .i64 dx0, .int .i64 dz0, .int .i64 dx1, .int .i64 dz1] 110 (0, 0))
                  have hC7 := halloc hC6 (.cells #[.int .i64 (k : Nat), .int .i64 (b : Nat), .int .i64 dx0, .int .i64 dz0, .int .i64 dx1, .int .i64 dz1] 110 (0, 0))
                  have hD7 := hD.below ((Below.refl _ _).alloc (Nat.le_refl wr.heap.size) (.cells #[.int .i64 (k : Nat), .int .i64 (b : Nat), .int .i64 dx0, .int .i64 dz0, .int .i64 dx1, .int .i64 dz1] 110 (0, 0))) (Nat.le_refl _)
                  have hB7 := hB6.alloc hB6.size (.cells #[.int .i64 (k : Nat), .int .i64 (b : Nat), .int .i64 dx0, .int .i64 dz0, .int .i64 dx1, .int .i64 dz1] 110 (0, 0))
                  have hz7 : (wr.alloc (.cells #[.int .i64 (k : Nat), .int .i64 (b : Nat), .int .i64 dx0, .int .i64 dz0, .int .i64 dx1, .int .i64 dz1] 110 (0, 0))).heap.size = wr.heap.size + 1 := by simp
                  obtain ⟨W5, hW5⟩ : ∃ W, W = wr.alloc (.cells #[.int .i64 (k : Nat), .int .i64 (b : Nat), .int .i64 dx0, .int .i64 dz0, .int .i64 dx1, .int .i64 dz1] 110 (0, 0)) := ⟨_, rfl⟩
                  rw [← hW5] at hd5 hown5 hC7 hD7 hB7 hz7
                  rw [← hW5]
                  have hw5 : w.heap.size + 1 ≤ W5.heap.size := by omega
                  have hbd5 : bd < W5.heap.size := by omega
                  clear hW5 hown hC6 hD hB6 hz7 hbd
                  have n0 := hcell (k := 0) (v := .int .i64 (k : Nat)) hd5 rfl
                  have n1 := hcell (k := 1) (v := .int .i64 (b : Nat)) hd5 rfl
                  have n2 := hcell (k := 2) (v := .int .i64 dx0) hd5 rfl
                  have n3 := hcell (k := 3) (v := .int .i64 dz0) hd5 rfl
                  have n4 := hcell (k := 4) (v := .int .i64 dx1) hd5 rfl
                  have n5 := hcell (k := 5) (v := .int .i64 dz1) hd5 rfl
                  clear hd5
                  go_wp2_with (at_builtin; refine wpList_appR (f := drC) (sz := 6) (e := 110) (B := w.heap.size + 1) (n := Y.length) (xs := Y) _ drC_len drC_one rfl _ _ 36 rfl (.agg #[.int .i64 0, .int .i64 0, .int .i64 0, .int .i64 0, .int .i64 0, .int .i64 0]) 48 Tryz.underlying36 info_dr rfl (by decide) ⟨(k : Nat), (b : Nat), dx0, dz0, dx1, dz1⟩ 110 hown5 rfl rfl (by omega) (by omega) (by omega) ?_; intro v' w' hown' happ)
                  clear n0 n1 n2 n3 n4 n5
                  have hne := hown5.le
                  have hC8 := hgrown happ.grown hC7 (fun e => by have := hne _ e; omega)
                  have hD8 := hD7.grown happ.grown (fun ad had e => by cases had; exact hvd e)
                  have hB8 := hB7.trans (happ.below (B := w.heap.size) hB7.size (fun i hi => by have := hne i hi; omega))
                  have hs8 : w.heap.size + 1 ≤ w'.heap.size := Nat.le_trans (by omega) happ.grown.size
                  have hv8 : v'.ownBlock ≠ some bd := fun e => by
                    rcases happ.own with h | h
                    · rw [h] at e; exact hvd e
                    · have := h _ e; omega
                  clear happ hown5 hC7 hD7 hB7 hne
                  go_wp2
                  go_roundw
                  case rel => exact ⟨j + 1, by go_num, by omega, ⟨_, (show _ = _ by rw [HT.out, ← List.append_assoc, ← HY.out]), DrAt.mk (own_len' hown') (Nat.le_refl _)⟩, fun ad had => by cases had; exact hv8, hD8, hC8, hB8, hs8⟩
                  case measure => simp [intOf]; omega
                · obtain rfl : j = D.length := by omega
                  have hjI : ¬ (D.length : Int) < (D.length : Int) := by omega
                  have hR2 := HRP.out
                  go_wp2
                  go_roundw
                  case rel => exact ⟨_, _, _, _, ⟨k + 1, by go_num, by omega, Y, (show _ = _ by rw [hR2, ← List.append_assoc, ← HX.out, HY.out, List.take_length]), ⟨_, _, rfl, hown⟩⟩, rfl, rfl, rfl, rfl⟩
                  case measure => simp [intOf]; omega
          · obtain rfl : k = b := by omega
            have hkI : ¬ (k : Int) < (k : Int) := by omega
            have hAP := HA.out k
            go_wp2
            go_roundw
            case rel => exact ⟨k + 1, by go_num, by omega, ⟨X, (show _ = _ by rw [hAP]; exact HX.out), ⟨_, _, rfl, hown⟩⟩, HC4.out, hB4, hs4⟩
            case measure => simp [intOf]; omega
      · obtain rfl : b = n := by omega
        have hbI : ¬ (b : Int) < (b : Int) := by omega
        have HF3b := HF3.out
        have HF4b := HF4.out
        rw [← HXb.out] at HF3b HF4b
        have HF3c := Lib.hid HF3b
        have HF4c := Lib.hid HF4b
        clear HF3b HF4b
        by_cases h400 : Xb.length ≤ 400
        · have h4I : ¬ (400 : Int) < (Xb.length : Int) := by omega
          obtain ⟨xa, xc, rfl, hown⟩ := hown
          go_wp2_with fail
          refine (sortdr_any _ _ _ _ _ hown (by omega)).mono ?_
          rintro e w5 ⟨rfl, ys, ad, cd, e, hp, hso, hsl, hb5⟩
          cases e
          have hP := HF4c.out w5 _ _ ys hcf (by trivial) h400 hp hso hsl (hB3.trans (hb5.mono (by omega)))
          clear hown
          go_wp2
          first
            | exact hP
            | (go_ret2; exact hP)
        · have h4I : (400 : Int) < (Xb.length : Int) := by omega
          have hP := HF3c.out wr hcf (by trivial) h400 hB3
          obtain ⟨xa, xc, rfl, hown⟩ := hown
          go_wp2
          first
            | exact hP
            | (go_ret2; exact hP)
end Go.Proofs.YtmgkkmcihplojaaGreat
