/- Walks: what the law of layer 10 asks of Each. -/
import Derived.Test.YtilhmlapbifbbaaOpn
namespace Go.Proofs.Ytilhmlapbifbbaa
open Go.RowKit Go.Shelf Go.Sort
attribute [local go_sem] Oper.semAt_some

theorem openAt_room {cf : Cfg} {xs : List Spn} {k : Nat} (h : openAt cf xs k = true) : roomB xs k = true := by
  unfold openAt at h
  cases hx : xs[k]? with
  | none => rw [hx] at h; cases h
  | some x =>
    rw [hx] at h
    simp only [Bool.and_eq_true] at h
    have := h.2
    simp only [fitsI, Bool.and_eq_true] at this
    exact this.1
theorem eachUp_room (cf : Cfg) (xs : List Spn) (k : Nat) : ∀ p ∈ eachUp cf xs k, roomB xs p.1 = true ∧ p.2 = roomI xs p.1 := by
  induction k with
  | zero => intro p hp; cases hp
  | succ k ih =>
    cases h : openAt cf xs k with
    | true =>
      rw [eachUp_yes h]
      intro p hp
      rcases List.mem_append.1 hp with hp | hp
      · exact ih p hp
      · simp at hp
        subst hp
        exact ⟨openAt_room h, rfl⟩
    | false => rw [eachUp_no h]; exact ih
theorem each_bad {cf : Cfg} {xs : List Spn} (h : (cfgOk cf && spOk xs) = false) : eachL cf xs = [] := by
  have ho : ∀ k, openAt cf xs k = false := by
    intro k
    cases hk : openAt cf xs k with
    | false => rfl
    | true =>
      exfalso
      have hr := openAt_room hk
      unfold openAt at hk
      cases hx : xs[k]? with
      | none => rw [hx] at hk; cases hk
      | some x =>
        rw [hx] at hk
        simp only [fitsI, fitsN, Bool.and_eq_true] at hk
        have h1 := (roomB_lt hr).1
        rw [h1, Bool.and_true] at h
        have h2 := hk.2.2
        rw [Int.toNat_natCast, hx] at h2
        simp [h] at h2
  unfold eachL
  generalize xs.length = m
  induction m with
  | zero => rfl
  | succ m ih => rw [eachUp_no (ho m), ih]
theorem openKs_each (cf : Cfg) (xs : List Spn) : openKs cf xs = fstI (eachL cf xs) := by
  cases h : cfgOk cf && spOk xs with
  | true => simp [openKs, h, fstI]
  | false => simp [openKs, h, each_bad h, fstI]

theorem prefix_snoc {α : Type} {pre E : List α} {p : α} (h : pre <+: E) (hp : E[pre.length]? = some p) : pre ++ [p] <+: E := by
  obtain ⟨t, rfl⟩ := h
  rw [List.getElem?_append_right (Nat.le_refl _)] at hp
  cases t with
  | nil => simp at hp
  | cons y t =>
    simp at hp
    subst hp
    exact ⟨t, by simp⟩
theorem prefix_snoc_eq {α : Type} {pre E : List α} {x p : α} (h : pre ++ [x] <+: E) (hp : E[pre.length]? = some p) : x = p := by
  obtain ⟨t, rfl⟩ := h
  simp at hp
  exact hp
theorem fstI_getD {E : List (Nat × Int)} {i : Nat} {p : Nat × Int} (h : E[i]? = some p) : (fstI E).getD i 0 = (p.1 : Int) := by
  simp [fstI, List.getD_eq_getElem?_getD, h]

set_option maxRecDepth 100000 in
set_option maxHeartbeats 1000000 in
theorem goes_any (cf : Cfg) (a : Option Addr) (n c : Nat) (xs : List Spn) (b : Option Addr) (m d : Nat) (leave : Int) (w : World) (hx : SlSp w a n c xs) (hy : SlI .i64 w b m d (fstI (eachL cf xs))) :
    Calls Try.prog 31 #[cfgV cf, .slice a n c, .slice b m d, .int .i64 leave] w fun e w' => e = .returned (.bool true) ∧ Below w.heap.size w w' := by
  have Hl := Lib.hid hx.len
  have hmax := hx.max
  have hle := hx.le
  have Hm := Lib.hid hy.len
  have hmax2 := hy.max
  have hle2 := hy.le
  have Hx := Lib.hid hx; clear hx
  have Hy := Lib.hid hy; clear hy
  have Hroom := Lib.hid (eachUp_room cf xs xs.length)
  obtain ⟨clear, climb, height, rise, run, cw, cd⟩ := cf
  obtain ⟨E, hE⟩ : ∃ E, E = eachL ⟨clear, climb, height, rise, run, cw, cd⟩ xs := ⟨_, rfl⟩
  show Calls Try.prog _ #[.agg #[.int .i64 clear, .int .i64 climb, .int .i64 height, .int .i64 rise, .int .i64 run, .int .i64 cw, .int .i64 cd], .slice a n c, .slice b m d, .int .i64 leave] w _
  refine (callsIn_wide (n := 5)).1 ?_
  refine callsIn_of_wp_marks Try.func31 rfl trivial ?_ rfl
  simp only [Try.ntmps31, List.size_toArray, List.length_cons, List.length_nil, Nat.reduceAdd, Nat.reduceSub, Array.replicate_succ, Array.replicate_zero, List.push_toArray, List.append_toArray, List.nil_append, List.cons_append]
  have HE := Lib.hid hE; clear hE
  gi_wp2_with fail
  refine ⟨trivial, ?_⟩
  gi_at_call 66
  refine (callsIn_wide.2 (each_any ⟨clear, climb, height, rise, run, cw, cd⟩ a n c xs _ (((((Hx.out.alloc _).alloc _).alloc _).alloc _).alloc _))).mono ?_
  rintro e w3 ⟨rfl, hb3, he3, hs3⟩
  have q1 := (((Boxed.new (w.alloc (.cells (cfgL ⟨clear, climb, height, rise, run, cw, cd⟩).toArray 32)) 33 (.slice a n c)).alloc (.cells #[.slice b m d] 36)).alloc (.cells #[.int .i64 leave] 3)).alloc (.cells #[.bool false] 4)
  have q2 := ((Boxed.new ((w.alloc (.cells (cfgL ⟨clear, climb, height, rise, run, cw, cd⟩).toArray 32)).alloc (.cells #[.slice a n c] 33)) 36 (.slice b m d)).alloc (.cells #[.int .i64 leave] 3)).alloc (.cells #[.bool false] 4)
  have q3 := (Boxed.new (((w.alloc (.cells (cfgL ⟨clear, climb, height, rise, run, cw, cd⟩).toArray 32)).alloc (.cells #[.slice a n c] 33)).alloc (.cells #[.slice b m d] 36)) 3 (.int .i64 leave)).alloc (.cells #[.bool false] 4)
  have q4 := Boxed.new ((((w.alloc (.cells (cfgL ⟨clear, climb, height, rise, run, cw, cd⟩).toArray 32)).alloc (.cells #[.slice a n c] 33)).alloc (.cells #[.slice b m d] 36)).alloc (.cells #[.int .i64 leave] 3)) 4 (.bool false)
  simp only [World.size_alloc] at q1 q2 q3 q4 he3 hs3
  have b1 : Boxed w3 (w.heap.size + 1) 33 (.slice a n c) := (hb3.block _ (by simp)).trans q1
  have b2 : Boxed w3 (w.heap.size + 1 + 1) 36 (.slice b m d) := (hb3.block _ (by simp)).trans q2
  have b3 : Boxed w3 (w.heap.size + 1 + 1 + 1) 3 (.int .i64 leave) := (hb3.block _ (by simp)).trans q3
  have b4 : Boxed w3 (w.heap.size + 1 + 1 + 1 + 1) 4 (.bool false) := (hb3.block _ (by simp)).trans q4
  have hB3 : Below w.heap.size w w3 := (((((((Below.refl _ _).alloc (Nat.le_refl _) _).alloc (by simp) _).alloc (by simp; omega) _).alloc (by simp; omega) _).alloc (by simp; omega) _).trans (hb3.mono (by simp; omega)))
  clear hb3 q1 q2 q3 q4
  have hnf := run_eql_func_nil (P := Try.prog) Try.underlying91 ⟨_, _, _, rfl⟩ (.func 104) #[] #[.pointer (some ⟨w.heap.size + 1 + 1 + 1 + 1 + 1 + 1, 0, none⟩), .pointer (some ⟨w.heap.size + 1 + 1 + 1 + 1 + 1 + 2, 0, none⟩)]
  have HS3 := Lib.hid hs3
  have h3lt : w.heap.size + 1 + 1 + 1 + 1 < w3.heap.size := by omega
  have hB5 : w.heap.size + 1 + 1 + 1 + 1 + 1 + 2 < w3.heap.size := by omega
  clear hs3
  gi_wp2
  obtain ⟨w4, hw4⟩ : ∃ w4, w4 = w3.alloc (.cells #[.int .i64 0] 3) := ⟨_, rfl⟩
  rw [← hw4]
  have bN : Boxed w4 w3.heap.size 3 (.int .i64 0) := by rw [hw4]; exact Boxed.new w3 3 (.int .i64 0)
  have he4 : EachAt (w.heap.size + 1 + 1 + 1 + 1 + 1) ⟨clear, climb, height, rise, run, cw, cd⟩ a n c xs w4 := by rw [hw4]; exact he3.below ((Below.refl _ w3).alloc (Nat.le_refl _) (.cells #[.int .i64 0] 3))
  have hB4 : Below w.heap.size w w4 := by rw [hw4]; exact hB3.alloc hB3.size _
  have b1' : Boxed w4 (w.heap.size + 1) 33 (.slice a n c) := by rw [hw4]; exact Boxed.alloc b1 _
  have b2' : Boxed w4 (w.heap.size + 1 + 1) 36 (.slice b m d) := by rw [hw4]; exact Boxed.alloc b2 _
  have b3' : Boxed w4 (w.heap.size + 1 + 1 + 1) 3 (.int .i64 leave) := by rw [hw4]; exact Boxed.alloc b3 _
  have b4' : Boxed w4 (w.heap.size + 1 + 1 + 1 + 1) 4 (.bool false) := by rw [hw4]; exact Boxed.alloc b4 _
  have hs4 : w4.heap.size = w3.heap.size + 1 := by rw [hw4]; exact World.size_alloc _ _
  clear b1 b2 b3 b4
  clear hw4 he3 hB3
  have hHw4 : w.heap.size ≤ w4.heap.size := hB4.size
  have ha4 : ∀ ad, a = some ad → n = 0 ∨ (ad.block < w4.heap.size ∧ ¬ (ad.block = w.heap.size + 1 + 1 + 1 + 1 ∨ ad.block = w3.heap.size)) := by
    intro ad had
    have := Hx.out.far ad had
    omega
  have hb4' : ∀ ad, b = some ad → m = 0 ∨ (ad.block < w4.heap.size ∧ ¬ (ad.block = w.heap.size + 1 + 1 + 1 + 1 ∨ ad.block = w3.heap.size)) := by
    intro ad had
    have := Hy.out.far ad had
    omega
  have Ha4 := Lib.hid ha4
  have Hb4 := Lib.hid hb4'
  have Hy4 : Hid (SlI .i64 w4 b m d (fstI E)) := by show SlI _ _ _ _ _ _; rw [HE.out]; exact Hy.out.below hB4 (Nat.le_refl _)
  have Hx4 : Hid (SlSp w4 a n c xs) := Hx.out.below hB4 (Nat.le_refl _)
  have hlenE : E.length = m := by rw [← Hm.out, HE.out]; simp [fstI]
  have HlenE := Lib.hid hlenE
  have HroomE : Hid (∀ p ∈ E, roomB xs p.1 = true ∧ p.2 = roomI xs p.1) := by show ∀ p ∈ E, _; rw [HE.out]; exact Hroom.out
  clear ha4 hb4' Hx Hy hlenE Hroom
  refine wpIn_rangeFunc_ownG rfl (by decide) (gf := 104) (lb := #[.pointer (some ⟨w.heap.size + 1 + 1 + 1 + 1 + 1 + 1, 0, none⟩), .pointer (some ⟨w.heap.size + 1 + 1 + 1 + 1 + 1 + 2, 0, none⟩)]) rfl trivial (enters_of Try.func104 (by kernel_rfl) rfl)
    (each_stops 4 (by decide) (w.heap.size + 1 + 1 + 1 + 1 + 1) w4.heap.size (fun k => k = w.heap.size + 1 + 1 + 1 + 1 ∨ k = w3.heap.size) ⟨clear, climb, height, rise, run, cw, cd⟩ a n c xs w4 he4 (by omega) (by omega) (by omega) (by omega) Ha4.out) keepEx_t (keepEx_b (Nat.le_refl _)) (Below.refl _ _) (fun _ => rfl)
    (fun pre W => (Boxed W w3.heap.size 3 (.int .i64 (pre.length : Int)) ∧ Boxed W (w.heap.size + 1 + 1 + 1 + 1) 4 (.bool false) ∧ pre <+: E) ∧ (KeepEx w4.heap.size (fun k => k = w.heap.size + 1 + 1 + 1 + 1 ∨ k = w3.heap.size) w4 W ∧ Below w.heap.size w W))
    (fun cc pre W => (((cc = .ret ∧ ¬ pre <+: E) ∨ (cc = .exit 0 ∧ (pre.length : Int) = leave)) ∧ (cc = .ret ∨ (Boxed W w3.heap.size 3 (.int .i64 (pre.length : Int)) ∧ Boxed W (w.heap.size + 1 + 1 + 1 + 1) 4 (.bool false)))) ∧ (KeepEx w4.heap.size (fun k => k = w.heap.size + 1 + 1 + 1 + 1 ∨ k = w3.heap.size) w4 W ∧ Below w.heap.size w W))
    (OwnFrom.and (Own.from (fun s A B row hs hg hr => ⟨boxed_own _ _ (fun s : List (Nat × Int) => Value.int .i64 (s.length : Int)) s A B row hs.1 hg hr, boxed_own _ _ (fun _ : List (Nat × Int) => Value.bool false) s A B row hs.2.1 hg hr, hs.2.2⟩) _) (OwnFrom.and (ownFrom_keepEx (Nat.le_refl _) (Nat.le_refl _)) (ownFrom_below (Nat.le_refl _) hHw4)))
    (fun cc => OwnFrom.and (Own.from (fun s A B row hs hg hr => ⟨hs.1, hs.2.imp id fun h => ⟨boxed_own _ _ (fun s : List (Nat × Int) => Value.int .i64 (s.length : Int)) s A B row h.1 hg hr, boxed_own _ _ (fun _ : List (Nat × Int) => Value.bool false) s A B row h.2 hg hr⟩⟩) _) (OwnFrom.and (ownFrom_keepEx (Nat.le_refl _) (Nat.le_refl _)) (ownFrom_below (Nat.le_refl _) hHw4)))
    ⟨⟨bN, b4', List.nil_prefix⟩, KeepEx.refl _ _ _, hB4⟩
    (fun x => { tmps := #[.agg #[.int .i64 clear, .int .i64 climb, .int .i64 height, .int .i64 rise, .int .i64 run, .int .i64 cw, .int .i64 cd], .slice a n c, .slice b m d, .int .i64 leave, .pointer (some ⟨w.heap.size, 0, none⟩), .pointer (some ⟨w.heap.size + 1, 0, none⟩), .pointer (some ⟨w.heap.size + 1 + 1, 0, none⟩), .pointer (some ⟨w.heap.size + 1 + 1 + 1, 0, none⟩), .pointer (some ⟨w.heap.size + 1 + 1 + 1 + 1, 0, none⟩), .func (.func 104) #[] #[.pointer (some ⟨w.heap.size + 1 + 1 + 1 + 1 + 1 + 1, 0, none⟩), .pointer (some ⟨w.heap.size + 1 + 1 + 1 + 1 + 1 + 2, 0, none⟩)], .pointer (some ⟨w3.heap.size, 0, none⟩), .int .i64 (x.1 : Int), .int .i64 x.2, undef, undef, .agg #[.int .i64 clear, .int .i64 climb, .int .i64 height, .int .i64 rise, .int .i64 run, .int .i64 cw, .int .i64 cd], .slice a n c, .func (.func 104) #[] #[.pointer (some ⟨w.heap.size + 1 + 1 + 1 + 1 + 1 + 1, 0, none⟩), .pointer (some ⟨w.heap.size + 1 + 1 + 1 + 1 + 1 + 2, 0, none⟩)], .func (.func 104) #[] #[.pointer (some ⟨w.heap.size + 1 + 1 + 1 + 1 + 1 + 1, 0, none⟩), .pointer (some ⟨w.heap.size + 1 + 1 + 1 + 1 + 1 + 2, 0, none⟩)], .bool false, .func (.func 104) #[] #[.pointer (some ⟨w.heap.size + 1 + 1 + 1 + 1 + 1 + 1, 0, none⟩), .pointer (some ⟨w.heap.size + 1 + 1 + 1 + 1 + 1 + 2, 0, none⟩)], .int .i64 (x.1 : Int), .int .i64 x.2, undef, undef, undef, undef, undef, undef, undef, undef, undef, undef, undef, undef, undef, undef, undef, undef, undef, undef, undef, undef, undef, undef, undef, undef, undef, undef, undef, undef, undef, undef, undef, undef, undef, undef, undef, undef, undef, undef, undef], defers := [] }) ?assign ?body ?done ?stop
  case assign =>
    intro l x W K hK
    gi_wp2
    exact hK
  case body =>
    rintro l pre x W ⟨⟨hn, hr, hpre⟩, hke, hB⟩ hlt
    have c1 := (Boxed.keepEx b1' hke (by omega) (by omega)).cell
    have c2 := (Boxed.keepEx b2' hke (by omega) (by omega)).cell
    have c3 := (Boxed.keepEx b3' hke (by omega) (by omega)).cell
    have c4 := hr.cell
    have f4 := hr.frozen
    have cn := hn.cell
    have fn := hn.frozen
    have hyW := Hy4.out.keepEx hke Hb4.out
    by_cases hA : E.length ≤ pre.length
    · have hA' : (m : Int) ≤ (pre.length : Int) := by have := HlenE.out; omega
      gi_wp2
      refine ⟨(KeepsOthers.setCell _ _ _).from _, ⟨.inl ⟨rfl, fun h => ?_⟩, .inl rfl⟩, hke.trans (KeepEx.setCell (.inr (.inl rfl)) _), hB.setCell (p := ⟨w.heap.size + 1 + 1 + 1 + 1, 0, none⟩) (by simp; omega) _⟩
      have := h.length_le
      simp at this
      omega
    · obtain ⟨p, hp⟩ : ∃ p, E[pre.length]? = some p := ⟨_, List.getElem?_eq_getElem (by omega)⟩
      have hlt2 : (pre.length : Int) < (m : Int) := by have := HlenE.out; omega
      obtain ⟨bb, boff, rfl, hcw⟩ := hyW.at0 (by omega)
      have cw1 := hcw pre.length (by omega)
      rw [fstI_getD hp] at cw1
      obtain ⟨hrb, hri⟩ := HroomE.out p (List.mem_of_getElem? hp)
      have Hp := Lib.hid hp
      have Hpre := Lib.hid hpre
      have HA := Lib.hid hA
      clear hcw hp hpre hA hyW
      obtain ⟨x1, x2⟩ := x
      obtain ⟨p1, p2⟩ := p
      simp only at hrb hri cw1 ⊢
      by_cases hk : x1 = p1
      · subst hk
        have q1 : ((x1 : Int) != (x1 : Int)) = false := by simp
        have Hrb := Lib.hid hrb
        have Hri := Lib.hid hri
        clear hrb hri
        gi_wp2_with fail
        refine ⟨trivial, ?_⟩
        gi_at_call 25
        refine (CallsIn.inRound l (callsIn_wide.2 (refroom_any a n c xs x1 _ (Hx4.out.keepEx hke Ha4.out)))).mono ?_
        rintro e w5 ⟨rfl, hb5⟩
        rw [Hrb.out, ← Hri.out]
        have hke5 := hke.trans (KeepEx.of_below hb5 hke.size)
        have hB5 := hB.trans (hb5.mono hB.size)
        have hk5 := KeepsFrom.of_below hb5 w4.heap.size
        have hn5 : Boxed w5 w3.heap.size 3 (.int .i64 (pre.length : Int)) := (hb5.block _ hn.lt).trans hn
        have hr5 : Boxed w5 (w.heap.size + 1 + 1 + 1 + 1) 4 (.bool false) := (hb5.block _ hr.lt).trans hr
        have hkx : KeepEx w4.heap.size (fun k => k = w.heap.size + 1 + 1 + 1 + 1 ∨ k = w3.heap.size) W w5 := KeepEx.of_below hb5 hke.size
        clear c1 c2 c3 c4 f4 cn fn cw1 hn hr q1 hb5 hB hke
        have c3 := (Boxed.keepEx b3' hke5 (by omega) (by omega)).cell
        have c4 := hr5.cell
        have f4 := hr5.frozen
        have cn := hn5.cell
        have fn := hn5.frozen
        by_cases ht : x2 = p2
        · subst ht
          have q1 : (x2 != x2) = false := by simp
          by_cases hv : (pre.length : Int) + 1 = leave
          · have q2 : ((pre.length : Int) + 1 == leave) = true := by simp [hv]
            have Hv := Lib.hid hv
            clear hv
            gi_wp2
            have hn6 := hn5.set (Value.int .i64 ((pre.length : Int) + 1))
            have hr6 := hr5.other (B' := w3.heap.size) (by omega) (Value.int .i64 ((pre.length : Int) + 1))
            have hk6 := hk5.trans ((KeepsOthers.setCell w5 ⟨w3.heap.size, 0, none⟩ (Value.int .i64 ((pre.length : Int) + 1))).from _)
            have e1 : ((pre ++ [(x1, x2)]).length : Int) = (pre.length : Int) + 1 := by simp
            exact ⟨hk6, ⟨.inr ⟨rfl, by rw [e1]; exact Hv.out⟩, .inr ⟨by rw [e1]; exact hn6, hr6⟩⟩, hke5.trans (KeepEx.setCell (.inr (.inr rfl)) _), hB5.setCell (p := ⟨w3.heap.size, 0, none⟩) (by simp; omega) _⟩
          · have q2 : ((pre.length : Int) + 1 == leave) = false := by simp [hv]
            clear hv
            gi_wp2
            have hn6 := hn5.set (Value.int .i64 ((pre.length : Int) + 1))
            have hr6 := hr5.other (B' := w3.heap.size) (by omega) (Value.int .i64 ((pre.length : Int) + 1))
            have hk6 := hk5.trans ((KeepsOthers.setCell w5 ⟨w3.heap.size, 0, none⟩ (Value.int .i64 ((pre.length : Int) + 1))).from _)
            have e1 : ((pre ++ [(x1, x2)]).length : Int) = (pre.length : Int) + 1 := by simp
            exact ⟨hk6, hkx.trans (KeepEx.setCell (.inr (.inr rfl)) _), ⟨by rw [e1]; exact hn6, hr6, prefix_snoc Hpre.out Hp.out⟩, hke5.trans (KeepEx.setCell (.inr (.inr rfl)) _), hB5.setCell (p := ⟨w3.heap.size, 0, none⟩) (by simp; omega) _⟩
        · have q1 : (p2 != x2) = true := by simp; exact fun h => ht h.symm
          have Ht := Lib.hid ht
          clear ht
          gi_wp2
          exact ⟨hk5.trans ((KeepsOthers.setCell _ _ _).from _), ⟨.inl ⟨rfl, fun h => Ht.out (congrArg Prod.snd (prefix_snoc_eq h Hp.out))⟩, .inl rfl⟩, hke5.trans (KeepEx.setCell (.inr (.inl rfl)) _), hB5.setCell (p := ⟨w.heap.size + 1 + 1 + 1 + 1, 0, none⟩) (by simp; omega) _⟩
      · have q1 : ((x1 : Int) != (p1 : Int)) = true := by simp; omega
        have Hk := Lib.hid hk
        clear hk
        gi_wp2
        refine ⟨(KeepsOthers.setCell _ _ _).from _, ⟨.inl ⟨rfl, fun h => ?_⟩, .inl rfl⟩, hke.trans (KeepEx.setCell (.inr (.inl rfl)) _), hB.setCell (p := ⟨w.heap.size + 1 + 1 + 1 + 1, 0, none⟩) (by simp; omega) _⟩
        exact Hk.out (congrArg Prod.fst (prefix_snoc_eq h Hp.out))
  case done =>
    rintro D ys W hD rfl ⟨⟨hn, hr, hpre⟩, hke, hB⟩ hK
    rw [← HE.out, HlenE.out] at hn
    clear hpre
    have c2 := (Boxed.keepEx b2' hke (by omega) (by omega)).cell
    have c3 := (Boxed.keepEx b3' hke (by omega) (by omega)).cell
    have c4 := hr.cell
    have f4 := hr.frozen
    have cn := hn.cell
    have q1 : ((m : Int) == (m : Int)) = true := by simp
    gi_wp2
    have hv2 := hr.set (.bool true)
    have hK' := (KeepsOthers.setCell W ⟨w.heap.size + 1 + 1 + 1 + 1, 0, none⟩ (.bool true)).same D _ hK rfl
    refine ⟨by simp, .inl ⟨_, _, rfl, run_takeDeferred hK', ?_⟩⟩
    have hc5 := cell_kept hv2.cell (grownBy_putObj' _ D (.deferred none)) (fun r e => by cases e; exact ⟨_, hK', rfl⟩)
    refine ⟨.bool true, ?_, rfl, (hB.setCell (p := ⟨w.heap.size + 1 + 1 + 1 + 1, 0, none⟩) (by simp; omega) _).trans (belowK_b (w := w4) hHw4 _ D _ _ hD hK' rfl rfl)⟩
    simp [results, Try.f31, go_sem, hc5]
  case stop =>
    rintro D cc pre W hD hpre ⟨⟨hcc, hbx⟩, hke, hB⟩ hK
    rw [← HE.out] at hpre
    rcases hcc with ⟨rfl, hno⟩ | ⟨rfl, hlv⟩
    · exact absurd hpre hno
    rcases hbx with hbx | ⟨hn, hr⟩
    · cases hbx
    clear hpre
    rw [hlv] at hn
    have c2 := (Boxed.keepEx b2' hke (by omega) (by omega)).cell
    have c3 := (Boxed.keepEx b3' hke (by omega) (by omega)).cell
    have c4 := hr.cell
    have f4 := hr.frozen
    have cn := hn.cell
    have q2 : (leave == leave) = true := by simp
    clear hlv
    by_cases hlm : leave = (m : Int)
    · have q1 : (leave == (m : Int)) = true := by simp [hlm]
      clear hlm
      gi_wp2
      have hv2 := hr.set (.bool true)
      have hK' := (KeepsOthers.setCell W ⟨w.heap.size + 1 + 1 + 1 + 1, 0, none⟩ (.bool true)).same D _ hK rfl
      refine ⟨by simp, .inl ⟨_, _, rfl, run_takeDeferred hK', ?_⟩⟩
      have hc5 := cell_kept hv2.cell (grownBy_putObj' _ D (.deferred none)) (fun r e => by cases e; exact ⟨_, hK', rfl⟩)
      refine ⟨.bool true, ?_, rfl, (hB.setCell (p := ⟨w.heap.size + 1 + 1 + 1 + 1, 0, none⟩) (by simp; omega) _).trans (belowK_b (w := w4) hHw4 _ D _ _ hD hK' rfl rfl)⟩
      simp [results, Try.f31, go_sem, hc5]
    · have q1 : (leave == (m : Int)) = false := by simp [hlm]
      clear hlm
      gi_wp2
      have hv2 := hr.set (.bool true)
      have hK' := (KeepsOthers.setCell W ⟨w.heap.size + 1 + 1 + 1 + 1, 0, none⟩ (.bool true)).same D _ hK rfl
      refine ⟨by simp, .inl ⟨_, _, rfl, run_takeDeferred hK', ?_⟩⟩
      have hc5 := cell_kept hv2.cell (grownBy_putObj' _ D (.deferred none)) (fun r e => by cases e; exact ⟨_, hK', rfl⟩)
      refine ⟨.bool true, ?_, rfl, (hB.setCell (p := ⟨w.heap.size + 1 + 1 + 1 + 1, 0, none⟩) (by simp; omega) _).trans (belowK_b (w := w4) hHw4 _ D _ _ hD hK' rfl rfl)⟩
      simp [results, Try.f31, go_sem, hc5]

end Go.Proofs.Ytilhmlapbifbbaa
