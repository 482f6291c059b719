/- The library's ContainsFunc, Clone and SortFunc at spans; an append that always grows. -/
import Derived.Test.YtdkikecjlbgmdaaGreatGj
import Derived.Test.YtdkikecjlbgmdaaGreatSrt
import Derived.Test.YtdkikecjlbgmdaaGreatSlf
import Derived.ArgAppend
import Derived.Deep.RegionLawGrows
import Derived.Deep.RegionHeldLaw
namespace Go.Proofs.YtdkikecjlbgmdaaGreat
open Go.RowKit Go.Sort

instance : Inhabited Spn := ⟨⟨0, 0, false⟩⟩

/-! ### Plain -/
theorem flatMap_len {α : Type} {f : α → List Value} {sz : Nat} (hf : ∀ x, (f x).length = sz) (l : List α) : (l.flatMap f).length = l.length * sz := by
  induction l with
  | nil => simp
  | cons y l ih => rw [List.flatMap_cons, List.length_append, hf, ih, List.length_cons, Nat.succ_mul, Nat.add_comm]
theorem flatMap_inv {α : Type} {f : α → List Value} {sz : Nat} (hf : ∀ x, (f x).length = sz) (hsz : 0 < sz) {l : List α} {j : Nat} {u : Value} (h : (l.flatMap f)[j]? = some u) : ∃ x, l[j / sz]? = some x ∧ (f x)[j % sz]? = some u := by
  have hlen := flatMap_len hf l
  have hj : j < l.length * sz := by rw [← hlen]; exact (List.getElem?_eq_some_iff.1 h).1
  have hd : j / sz < l.length := Nat.div_lt_of_lt_mul (by rw [Nat.mul_comm]; exact hj)
  have hm : j % sz < (f l[j / sz]).length := by rw [hf]; exact Nat.mod_lt _ hsz
  refine ⟨l[j / sz], List.getElem?_eq_getElem hd, ?_⟩
  have h2 := flatMap_at hf l (j / sz) _ (j % sz) _ (List.getElem?_eq_getElem hd) (List.getElem?_eq_getElem hm)
  have e : j / sz * sz + j % sz = j := by rw [Nat.mul_comm]; exact Nat.div_add_mod _ _
  rw [e, h] at h2
  rw [List.getElem?_eq_getElem hm]
  exact h2.symm

/-- The row's cells, one by one. -/
theorem SlR.flat {α : Type} {f : α → List Value} {sz : Nat} {w : World} {b off : Nat} {xs : List α} (hf : ∀ x, (f x).length = sz) (hsz : 0 < sz) (h : ∀ i x, xs[i]? = some x → ∀ j v, (f x)[j]? = some v → w.cell? ⟨b, off + i * sz + j, none⟩ = some v) :
    ∀ j u, (xs.flatMap f)[j]? = some u → w.cell? ⟨b, off + j, none⟩ = some u := by
  intro j u hu
  obtain ⟨x, hx, hxu⟩ := flatMap_inv hf hsz hu
  have := h _ _ hx _ _ hxu
  rw [Nat.add_assoc, show j / sz * sz + j % sz = j by rw [Nat.mul_comm]; exact Nat.div_add_mod _ _] at this
  exact this

section
variable {α : Type} {f : α → List Value} {sz : Nat} {e : TypeId}
/-- 'append(l[:m:m], x)': always a row of one's own, new. -/
theorem wpList_appJ {P : Program} (w : World) {ops : Array Oper} {rest : List Oper} {o : Oper} {a : Act} {Q : Exit → Act → World → Prop}
    (hf : ∀ x, (f x).length = sz) (h1 : ∀ x, ∀ u ∈ f x, u.oneCell' = true) (hgd : o.guard = none) (s x : Operand) (t : TypeId) (hop : o.op = Op.call { callee := Callee.builtin Builtin.append, args := #[s, x], argTypes := #[t, t] })
    (z : Value) (bytes : Nat) (ht : P.underlying t = some (.slice e)) (hi : (P.info? e).map (fun i => (i.zero, i.size, i.bytes)) = some (some z, sz, bytes)) (hz : z.cells.size = sz) (hsz : 0 < sz)
    (y : α) (e' : TypeId) (b off m : Nat) (xs : List α) (hl : xs.length = m) (hb : b < w.heap.size)
    (hc : ∀ i x, xs[i]? = some x → ∀ j v, (f x)[j]? = some v → w.cell? ⟨b, off + i * sz + j, none⟩ = some v) (hs : a.eval s = .slice (some ⟨b, off, none⟩) m m)
    (hx : a.eval x = .slice (some ⟨w.heap.size, 0, none⟩) 1 1)
    (h63 : m + 1 ≤ 9223372036854775807) (hbytes : (m + 1) * bytes ≤ 140737488355328)
    (hK : ∀ v' w', OwnR f sz e w.heap.size w' v' (m + 1) (xs ++ [y]) → Below w.heap.size w w' → wpList P ops Q rest (a.put o.dst v') w') :
    wpList P ops Q (o :: rest) a (w.alloc (.cells (f y).toArray e')) := by
  obtain ⟨i, hi, hz0, hz1, hz2⟩ := info_parts hi
  refine wpList_append_grows _ hgd s x t hop e i z sz bytes ht hi hz0 hz1 hz2 hz hsz (some ⟨b, off, none⟩) m m (xs.flatMap f) hs (fun h => by cases h) (by rw [flatMap_len hf, hl]) ?_ ⟨w.heap.size, 0, none⟩ 1 1 (f y) hx (by rw [hf]; omega) ?_ (h1 y) (by omega) (by unfold maxLen; omega) hbytes ?_
  · intro b' hb' j u hu
    cases hb'
    rw [Addr.add_lit]
    exact (World.cell?_alloc_past _ _ _ hb).trans (SlR.flat hf hsz hc j u hu)
  · intro j u hu
    rw [Addr.add_lit, Nat.zero_add, World.cell?_alloc_at _ _ _ _ rfl]
    simpa using hu
  · intro v' w' q1 q2
    refine hK v' w' ⟨by simp [hl], ?_⟩ ?_
    · have := ownsRow_mono q1 (B' := w.heap.size) (by simp)
      simpa using this
    · have h2 : Below w.heap.size w (w.alloc (.cells (f y).toArray e')) := (Below.refl _ _).alloc (Nat.le_refl _) _
      exact h2.grown q2 (by simp) (fun j hj => by cases hj)
theorem step_appJ {P : Program} (w : World) {ops : Array Oper} {o : Oper} {a : Act} {K : Act → World → Prop} {Q : Exit → Act → World → Prop} {E : Prop}
    (hf : ∀ x, (f x).length = sz) (h1 : ∀ x, ∀ u ∈ f x, u.oneCell' = true) (hgd : o.guard = none) (s x : Operand) (t : TypeId) (hop : o.op = Op.call { callee := Callee.builtin Builtin.append, args := #[s, x], argTypes := #[t, t] })
    (z : Value) (bytes : Nat) (ht : P.underlying t = some (.slice e)) (hi : (P.info? e).map (fun i => (i.zero, i.size, i.bytes)) = some (some z, sz, bytes)) (hz : z.cells.size = sz) (hsz : 0 < sz)
    (y : α) (e' : TypeId) (b off m : Nat) (xs : List α) (hl : xs.length = m) (hb : b < w.heap.size)
    (hc : ∀ i x, xs[i]? = some x → ∀ j v, (f x)[j]? = some v → w.cell? ⟨b, off + i * sz + j, none⟩ = some v) (hs : a.eval s = .slice (some ⟨b, off, none⟩) m m)
    (hx : a.eval x = .slice (some ⟨w.heap.size, 0, none⟩) 1 1)
    (h63 : m + 1 ≤ 9223372036854775807) (hbytes : (m + 1) * bytes ≤ 140737488355328)
    (hK : ∀ v' w', OwnR f sz e w.heap.size w' v' (m + 1) (xs ++ [y]) → Below w.heap.size w w' → K (a.put o.dst v') w') :
    if Region.wanted o (yielded ops a.tmps) = true then Oper.wp P o a (w.alloc (.cells (f y).toArray e')) K Q else E := by
  obtain ⟨i, hi, hz0, hz1, hz2⟩ := info_parts hi
  refine step_append_grows hgd s x t hop e i z sz bytes ht hi hz0 hz1 hz2 hz hsz (some ⟨b, off, none⟩) m m (xs.flatMap f) hs (fun h => by cases h) (by rw [flatMap_len hf, hl]) ?_ ⟨w.heap.size, 0, none⟩ 1 1 (f y) hx (by rw [hf]; omega) ?_ (h1 y) (by omega) (by unfold maxLen; omega) hbytes ?_
  · intro b' hb' j u hu
    cases hb'
    rw [Addr.add_lit]
    exact (World.cell?_alloc_past _ _ _ hb).trans (SlR.flat hf hsz hc j u hu)
  · intro j u hu
    rw [Addr.add_lit, Nat.zero_add, World.cell?_alloc_at _ _ _ _ rfl]
    simpa using hu
  · intro v' w' q1 q2
    refine hK v' w' ⟨by simp [hl], ?_⟩ ?_
    · have := ownsRow_mono q1 (B' := w.heap.size) (by simp)
      simpa using this
    · have h2 : Below w.heap.size w (w.alloc (.cells (f y).toArray e')) := (Below.refl _ _).alloc (Nat.le_refl _) _
      exact h2.grown q2 (by simp) (fun j hj => by cases hj)
end

theorem run_append_zero {P : Program} {w : World} (t ty e : TypeId) (i : TypeInfo) (ht : P.underlying t = some (.slice e)) (hi : P.info? e = some i) (b a : Option Addr) (n cap c : Nat) (hn : n ≤ cap) :
    (Builtin.append_ #[t, t] ty #[.slice b n cap, .slice a 0 c]).run P w = .ok (.slice b n cap) w := by
  cases b <;> cases a <;> simp [Builtin.append_, run_underlying ht, sizeOf, typeInfo, hi, Builtin.lenOf, Builtin.firstCells, hn, storeCells, loadCells, loadCellsFrom]
theorem wpList_append_zero {P : Program} {w : World} {ops : Array Oper} {rest : List Oper} {o : Oper} {a : Act} {Q : Exit → Act → World → Prop} (hgd : o.guard = none) (s x : Operand) (t : TypeId)
    (ho : o.op = .call { callee := .builtin .append, args := #[s, x], argTypes := #[t, t] })
    (e : TypeId) (i : TypeInfo) (ht : P.underlying t = some (.slice e)) (hi : P.info? e = some i) (b a' : Option Addr) (n cap c : Nat) (hn : n ≤ cap)
    (hs : a.eval s = .slice b n cap) (hx : a.eval x = .slice a' 0 c)
    (h : wpList P ops Q rest (a.put o.dst (.slice b n cap)) w) : wpList P ops Q (o :: rest) a w := by
  refine wpList_plain hgd fun K hK => ?_
  have hrun := run_append_zero (P := P) (w := w) t o.type e i ht hi b a' n cap c hn
  unfold Oper.wp
  simp [execOp, ho, resolve, invoke, builtin, hs, hx, hrun, Result.andThen]
  exact hK _ _ h

/-! ### The library -/
theorem contspn_any (a : Option Addr) (n c : Nat) (xs : List Spn) (w : World) (hx : SlSp w a n c xs) (hn : n ≤ 100000) :
    Calls Tryz.prog 67 #[.slice a n c, .func (.func 68) #[] #[]] w fun e w' => e = .returned (.bool (!mayAll xs)) ∧ Below w.heap.size w w' := by
  by_cases h0 : n = 0
  · subst h0
    obtain rfl := List.eq_nil_of_length_eq_zero hx.len
    clear hx hn
    go_enter Tryz.func67, Tryz.ntmps67
    go_wp2_with fail
    refine Calls.mono (R := fun e w' => e = .returned (.int .i64 (-1)) ∧ w' = w) ?_ ?_
    · go_enter Tryz.func89, Tryz.ntmps89
      go_wp2
      refine wp_loop_rounds 1 ?_
      rw [rounds_succ]
      go_wp2
      go_ret
      exact ⟨rfl, rfl⟩
    · rintro e w' ⟨rfl, rfl⟩
      go_wp2
      go_ret
      exact ⟨rfl, Below.refl _ _⟩
  obtain ⟨b, off, rfl, hb, hc⟩ := hx.at0 (by omega)
  have hl := hx.len
  have eg : ∀ args w, (callFunc 68 args).run Tryz.prog w = .ok (.enter 68 args) w := enters_of Tryz.func68 (by kernel_rfl) rfl
  have h := AnyQ.slices_ContainsFunc Tryz.lContSpn 3 Tryz.isAgg41 Tryz.sizeOf41 spnC spnC_len (fun x => !mayS x) 68 #[] eg b off n c xs w
    (fun W x hb' => (notmay_any x W).mono fun _ _ h => ⟨h.1, hb'.trans (h.2.mono hb'.size)⟩) (by omega) (by omega) hb (fun j hj i v hi => by
      have hg : xs[j]? = some xs[j]! := by rw [List.getElem?_eq_getElem hj, getElem!_pos xs j hj]
      exact hc j _ hg i v hi)
  refine Calls.mono h ?_
  rintro e w' ⟨rfl, hb'⟩
  refine ⟨?_, hb'⟩
  rw [List.take_of_length_le (by omega)]
  congr 2
  simp [mayAll, List.all_eq_not_any_not]

theorem clonspn_any (a : Option Addr) (n c : Nat) (xs : List Spn) (w : World) (hx : SlSp w a n c xs) (hn : n ≤ 100000) :
    Calls Tryz.prog 70 #[.slice a n c] w fun e w' => ∃ v, e = .returned v ∧ OwnR spnC 3 41 w.heap.size w' v n xs ∧ Below w.heap.size w w' := by
  by_cases h0 : n = 0
  · subst h0
    obtain rfl := List.eq_nil_of_length_eq_zero hx.len
    cases a with
    | none =>
      refine (AnyE.slices_Clone_nil Tryz.lClonSpn 0 c w).mono ?_
      rintro e w' ⟨rfl, rfl⟩
      exact ⟨_, rfl, OwnR.nil _ _ _ _ _, Below.refl _ _⟩
    | some ad =>
      clear hx hn
      have hB : Below w.heap.size w (w.alloc (.cells #[] 41)) := (Below.refl _ _).alloc (Nat.le_refl _) _
      have q22 : ∀ (w : World) (a : Option Addr) (n c n' c' : Nat), (binOp .eql 27 (.slice a n c) (.slice none n' c')).run Tryz.prog w = .ok (.bool a.isNone) w := fun w a n c n' c' => Lib.run_eql_slice_nil w _ _ a n c n' c' Tryz.underlying27
      obtain ⟨i, hi, hz0, hz1, hz2⟩ := info_parts info_spn
      go_enter Tryz.func70, Tryz.ntmps70
      go_wp2_with (at_builtin; refine wpList_append_zero rfl _ _ 27 rfl 41 i Tryz.underlying27 hi (some ⟨w.heap.size, 0, none⟩) (some ad) 0 0 c (Nat.le_refl _) rfl rfl ?_)
      go_ret
      exact ⟨_, rfl, ⟨rfl, World.ownsRow_made w #[] 0 (Nat.le_refl _) (Nat.zero_le _) (by simp)⟩, hB⟩
  obtain ⟨b, off, rfl, hb, hc⟩ := hx.at0 (by omega)
  have hl := hx.len
  obtain ⟨i, hi, hz0, hz1, hz2⟩ := info_parts info_spn
  have h := AnyE.slices_Clone Tryz.lClonSpn i _ 3 24 hi hz0 hz1 hz2 rfl (by decide) Tryz.sizeOf41 b off n c (xs.flatMap spnC) w (by rw [flatMap_len spnC_len, hl]) (by unfold maxLen; omega) (by omega)
    (SlR.flat spnC_len (by decide) hc) (fun u hu => by obtain ⟨x, _, hxu⟩ := List.mem_flatMap.1 hu; exact spnC_one x u hxu)
  refine Calls.mono h ?_
  rintro e w' ⟨v, rfl, hown, _, hb'⟩
  exact ⟨v, rfl, ⟨hl, hown⟩, hb'⟩

/-- The comparison by Lo. -/
theorem cmplo_any (x y : Spn) (W : World) : Calls Tryz.prog 72 #[.agg #[.int .i64 x.lo, .int .i64 x.hi, .bool x.walk], .agg #[.int .i64 y.lo, .int .i64 y.hi, .bool y.walk]] W fun e w' => e = .returned (.int .i64 (Lib.compareInt x.lo y.lo)) ∧ ∃ q os', w' = grow (W.drewN q) os' := by
  have hcon := fun W' => AnyG.cmp_Compare_int Tryz.lCmpInt x.lo y.lo W'
  change ∀ W', Calls Tryz.prog 73 _ _ _ at hcon
  generalize Lib.compareInt x.lo y.lo = r at hcon ⊢
  go_enter Tryz.func72, Tryz.ntmps72
  go_wp2_with (go_at_call 73; refine (hcon _).mono ?_; rintro e w' ⟨rfl, rfl⟩)
  go_ret
  exact ⟨rfl, 0, _, by rw [alloc_eq_grow, alloc_eq_grow, grow_grow]; rfl⟩

def cmpLo (x y : Spn) : Int := Lib.compareInt x.lo y.lo
theorem ltLo (x y : Spn) : ltOf cmpLo x y = decide (x.lo < y.lo) := by
  unfold ltOf cmpLo Lib.compareInt
  by_cases h1 : x.lo < y.lo
  · simp [h1]
  · by_cases h2 : y.lo < x.lo <;> simp [h1, h2]
theorem swoLo : SWO (ltOf cmpLo) where
  irrefl x := by rw [ltLo]; simp
  trans x y z h1 h2 := by rw [ltLo] at *; simp at *; omega
  ntrans x y z h1 h2 := by rw [ltLo] at *; simp at *; omega

theorem sortspn_any (v : Value) (n : Nat) (xs : List Spn) (B : Nat) (w : World) (hown : OwnR spnC 3 41 B w v n xs) (hn : n ≤ 100000) :
    Calls Tryz.prog 71 #[v, .func (.func 72) #[] #[]] w fun e w' => e = .returned (.tuple #[]) ∧ ∃ ys a c, v = .slice a n c ∧ ys.Perm xs ∧ ys.Pairwise (fun p q => p.lo ≤ q.lo) ∧ SlSp w' a n c ys ∧ Below B w w' := by
  have hl := hown.1
  by_cases h0 : n = 0
  · subst h0
    obtain rfl := List.eq_nil_of_length_eq_zero hl
    obtain ⟨a, c, rfl, hs⟩ := OwnR.reads spnC_len hown
    refine (AnyF.slices_SortFunc_none Tryz.lSortSpn a c _ w).mono ?_
    rintro e w' ⟨rfl, rfl⟩
    exact ⟨rfl, [], a, c, rfl, List.Perm.refl _, List.Pairwise.nil, hs, Below.refl _ _⟩
  rcases hown.2.2 with ⟨_, hx⟩ | ⟨g, cap, cur, rfl, hBg, hg, h1, h2, h3, h4⟩
  · exact absurd hx h0
  have hH := holdsK_of_own spnC_len hown
  have hgs : g < w.heap.size := (Array.getElem?_eq_some_iff.1 hg).1
  have eg : ∀ args w, (callFunc 72 args).run Tryz.prog w = .ok (.enter 72 args) w := enters_of Tryz.func72 (by kernel_rfl) rfl
  have h := AnyQ.slices_SortFunc Tryz.lSortSpn 3 Tryz.isAgg41 Tryz.sizeOf41 spnC spnC_len spnC_one cmpLo swoLo 72 #[] g 0 cap xs.toArray w eg (fun _ _ _ _ x y => cmplo_any x y _) hH hgs (by simp; omega)
  have hsz : xs.toArray.size = n := by simpa using hl
  rw [hsz] at h
  refine Calls.mono h ?_
  rintro e w' ⟨rfl, d', m, os, hp, hs, rfl⟩
  have hds : d'.size = xs.toArray.size := hp.1
  have hr := sortK_reads spnC_len (m := m) (cap := cap) (os := os) hH hgs hds (by omega) (by simpa [maxLen] using h2)
  rw [hds, hsz] at hr
  have hp' : PermIn 0 xs.toArray.size xs.toArray d' := by rw [hsz]; exact hp
  have hs' : SortedIn (ltOf cmpLo) 0 xs.toArray.size d' := by rw [hsz]; exact hs
  have q1 := permIn_perm hp'
  have q2 := sortedIn_pairwise hds hs'
  refine ⟨rfl, d'.toList, _, _, rfl, by simpa using q1, ?_, hr, sortK_below hgs hBg⟩
  refine q2.imp ?_
  intro p q hpq
  rw [ltLo] at hpq
  simp at hpq
  exact hpq

end Go.Proofs.YtdkikecjlbgmdaaGreat
