/- The library's ContainsFunc, Clone and SortFunc at spans; an append that always grows. -/
import Derived.Test.YtjiklfffcnfdjaaGreatGj
import Derived.Test.YtjiklfffcnfdjaaGreatSrt
import Derived.Test.YtjiklfffcnfdjaaGreatSlf
import Derived.ArgAppend
import Derived.Deep.RegionLawGrows
import Derived.Deep.RegionHeldLaw
namespace Go.Proofs.YtjiklfffcnfdjaaGreat
open Go.RowKit Go.Sort

instance : Inhabited Spn := ⟨⟨0, 0, false⟩⟩

/-! ### Plain -/
theorem flatMap_len {α : Type} {f : α → List Value} {sz : Nat} (hf : ∀ x, (f x).length = sz) (l : List α) : (l.flatMap f).length = l.length * sz := by
  induction l with
  | nil => simp
  | cons y l ih => rw [List.flatMap_cons, List.length_append, hf, ih, List.length_cons, Nat.succ_mul, Nat.add_comm]
theorem flatMap_inv {α : Type} {f : α → List Value} {sz : Nat} (hf : ∀ x, (f x).length = sz) (hsz : 0 < sz) {l : List α} {j : Nat} {u : Value} (h : (l.flatMap f)[j]? = some u) : ∃ x, l[j / sz]? = some x ∧ (f x)[j % sz]? = some u := by
  have hlen := flatMap_len hf l
  have hj : j < l.length * sz := by rw [← hlen]; exact (List.getElem?_eq_some_iff.1 h).1
  have hd : j / sz < l.length := Nat.div_lt_of_lt_mul (by rw [Nat.mul_comm]; exact hj)
  have hm : j % sz < (f l[j / sz]).length := by rw [hf]; exact Nat.mod_lt _ hsz
  refine ⟨l[j / sz], List.getElem?_eq_getElem hd, ?_⟩
  have h2 := flatMap_at hf l (j / sz) _ (j % sz) _ (List.getElem?_eq_getElem hd) (List.getElem?_eq_getElem hm)
  have e : j / sz * sz + j % sz = j := by rw [Nat.mul_comm]; exact Nat.div_add_mod _ _
  rw [e, h] at h2
  rw [List.getElem?_eq_getElem hm]
  exact h2.symm

/-- The row's cells, one by one. -/
theorem SlR.flat {α : Type} {f : α → List Value} {sz : Nat} {w : World} {b off : Nat} {xs : List α} (hf : ∀ x, (f x).length = sz) (hsz : 0 < sz) (h : ∀ i x, xs[i]? = some x → ∀ j v, (f x)[j]? = some v → w.cell? ⟨b, off + i * sz + j, none⟩ = some v) :
    ∀ j u, (xs.flatMap f)[j]? = some u → w.cell? ⟨b, off + j, none⟩ = some u := by
  intro j u hu
  obtain ⟨x, hx, hxu⟩ := flatMap_inv hf hsz hu
  have := h _ _ hx _ _ hxu
  rw [Nat.add_assoc, show j / sz * sz + j % sz = j by rw [Nat.mul_comm]; exact Nat.div_add_mod _ _] at this
  exact this

section
variable {α : Type} {f : α → List Value} {sz : Nat} {e : TypeId}
/-- 'append(l[:m:m], x)': always a row of one's own, new. -/
theorem wpList_appJ {P : Program} (w : World) {ops : Array Oper} {rest : List Oper} {o : Oper} {a : Act} {Q : Exit → Act → World → Prop}
    (hf : ∀ x, (f x).length = sz) (h1 : ∀ x, ∀ u ∈ f x, u.oneCell' = true) (hgd : o.guard = none) (s x : Operand) (t : TypeId) (hop : o.op = Op.call { callee := Callee.builtin Builtin.append, args := #[s, x], argTypes := #[t, t] })
    (z : Value) (bytes : Nat) (ht : P.underlying t = some (.slice e)) (hi : (P.info? e).map (fun i => (i.zero, i.size, i.bytes)) = some (some z, sz, bytes)) (hz : z.cells.size = sz) (hsz : 0 < sz)
    (y : α) (e' : TypeId) (b off m : Nat) (xs : List α) (hl : xs.length = m) (hb : b < w.heap.size)
    (hc : ∀ i x, xs[i]? = some x → ∀ j v, (f x)[j]? = some v → w.cell? ⟨b, off + i * sz + j, none⟩ = some v) (hs : a.eval s = .slice (some ⟨b, off, none⟩) m m)
    (hx : a.eval x = .slice (some ⟨w.heap.size, 0, none⟩) 1 1)
    (h63 : m + 1 ≤ 9223372036854775807) (hbytes : (m + 1) * bytes ≤ 140737488355328)
    (hK : ∀ v' w', OwnR f sz e w.heap.size w' v' (m + 1) (xs ++ [y]) → Below w.heap.size w w' → wpList P ops Q rest (a.put o.dst v') w') :
    wpList P ops Q (o :: rest) a (w.alloc (.cells (f y).toArray e')) := by
  obtain ⟨i, hi, hz0, hz1, hz2⟩ := info_parts hi
  refine wpList_append_grows _ hgd s x t hop e i z sz bytes ht hi hz0 hz1 hz2 hz hsz (some ⟨b, off, none⟩) m m (xs.flatMap f) hs (fun h => by cases h) (by rw [flatMap_len hf, hl]) ?_ ⟨w.heap.size, 0, none⟩ 1 1 (f y) hx (by rw [hf]; omega) ?_ (h1 y) (by omega) (by unfold maxLen; omega) hbytes ?_
  · intro b' hb' j u hu
    cases hb'
    rw [Addr.add_lit]
    exact (World.cell?_alloc_past _ _ _ hb).trans (SlR.flat hf hsz hc j u hu)
  · intro j u hu
    rw [Addr.add_lit, Nat.zero_add, World.cell?_alloc_at _ _ _ _ rfl]
    simpa using hu
  · intro v' w' q1 q2
    refine hK v' w' ⟨by simp [hl], ?_⟩ ?_
    · have := ownsRow_mono q1 (B' := w.heap.size) (by simp)
      simpa using this
    · have h2 : Below w.heap.size w (w.alloc (.cells (f y).toArray e')) := (Below.refl _ _).alloc (Nat.le_refl _) _
      exact h2.grown q2 (by simp) (fun j hj => by cases hj)
theorem step_appJ {P : Program} (w : World) {ops : Array Oper} {o : Oper} {a : Act} {K : Act → World → Prop} {Q : Exit → Act → World → Prop} {E : Prop}
    (hf : ∀ x, (f x).length = sz) (h1 : ∀ x, ∀ u ∈ f x, u.oneCell' = true) (hgd : o.guard = none) (s x : Operand) (t : TypeId) (hop : o.op = Op.call { callee := Callee.builtin Builtin.append, args := #[s, x], argTypes := #[t, t] })
    (z : Value) (bytes : Nat) (ht : P.underlying t = some (.slice e)) (hi : (P.info? e).map (fun i => (i.zero, i.size, i.bytes)) = some (some z, sz, bytes)) (hz : z.cells.size = sz) (hsz : 0 < sz)
    (y : α) (e' : TypeId) (b off m : Nat) (xs : List α) (hl : xs.length = m) (hb : b < w.heap.size)
    (hc : ∀ i x, xs[i]? = some x → ∀ j v, (f x)[j]? = some v → w.cell? ⟨b, off + i * sz + j, none⟩ = some v) (hs : a.eval s = .slice (some ⟨b, off, none⟩) m m)
    (hx : a.eval x = .slice (some ⟨w.heap.size, 0, none⟩) 1 1)
    (h63 : m + 1 ≤ 9223372036854775807) (hbytes : (m + 1) * bytes ≤ 140737488355328)
    (hK : ∀ v' w', OwnR f sz e w.heap.size w' v' (m + 1) (xs ++ [y]) → Below w.heap.size w w' → K (a.put o.dst v') w') :
    if Region.wanted o (yielded ops a.tmps) = true then Oper.wp P o a (w.alloc (.cells (f y).toArray e')) K Q else E := by
  obtain ⟨i, hi, hz0, hz1, hz2⟩ := info_parts hi
  refine step_append_grows hgd s x t hop e i z sz bytes ht hi hz0 hz1 hz2 hz hsz (some ⟨b, off, none⟩) m m (xs.flatMap f) hs (fun h => by cases h) (by rw [flatMap_len hf, hl]) ?_ ⟨w.heap.size, 0, none⟩ 1 1 (f y) hx (by rw [hf]; omega) ?_ (h1 y) (by omega) (by unfold maxLen; omega) hbytes ?_
  · intro b' hb' j u hu
    cases hb'
    rw [Addr.add_lit]
    exact (World.cell?_alloc_past _ _ _ hb).trans (SlR.flat hf hsz hc j u hu)
  · intro j u hu
    rw [Addr.add_lit, Nat.zero_add, World.cell?_alloc_at _ _ _ _ rfl]
    simpa using hu
  · intro v' w' q1 q2
    refine hK v' w' ⟨by simp [hl], ?_⟩ ?_
    · have := ownsRow_mono q1 (B' := w.heap.size) (by simp)
      simpa using this
    · have h2 : Below w.heap.size w (w.alloc (.cells (f y).toArray e')) := (Below.refl _ _).alloc (Nat.le_refl _) _
      exact h2.grown q2 (by simp) (fun j hj => by cases hj)
end

theorem run_append_zero {P : Program} {w : World} (t ty e : TypeId) (i : TypeInfo) (ht : P.underlying t = some (.slice e)) (hi : P.info? e = some i) (b a : Option Addr) (n cap c : Nat) (hn : n ≤ cap) :
    (Builtin.append_ #[t, t] ty #[.slice b n cap, .slice a 0 c]).run P w = .ok (.slice b n cap) w := by
  cases b <;> cases a <;> simp [Builtin.append_, run_underlying ht, sizeOf, typeInfo, hi, Builtin.lenOf, Builtin.firstCells, hn, storeCells, loadCells, loadCellsFrom]
theorem wpList_append_zero {P : Program} {w : World} {ops : Array Oper} {rest : List Oper} {o : Oper} {a : Act} {Q : Exit → Act → World → Prop} (hgd : o.guard = none) (s x : Operand) (t : TypeId)
    (ho : o.op = .call { callee := .builtin .append, args := #[s, x], argTypes := #[t, t] })
    (e : TypeId) (i : TypeInfo) (ht : P.underlying t = some (.slice e)) (hi : P.info? e = some i) (b a' : Option Addr) (n cap c : Nat) (hn : n ≤ cap)
    (hs : a.eval s = .slice b n cap) (hx : a.eval x = .slice a' 0 c)
    (h : wpList P ops Q rest (a.put o.dst (.slice b n cap)) w) : wpList P ops Q (o :: rest) a w := by
  refine wpList_plain hgd fun K hK => ?_
  have hrun := run_append_zero (P := P) (w := w) t o.type e i ht hi b a' n cap c hn
  unfold Oper.wp
  simp [execOp, ho, resolve, invoke, builtin, hs, hx, hrun, Result.andThen]
  exact hK _ _ h

/-! ### The library -/
theorem contspn_any (a : Option Addr) (n c : Nat) (xs : List Spn) (w : World) (hx : SlSp w a n c xs) (hn : n ≤ 100000) :
    Calls Tryz.prog 48 #[.slice a n c, .func (.func 49) #[] #[]] w fun e w' => e = .returned (.bool (!mayAll xs)) ∧ Below w.heap.size w w' := by
  by_cases h0 : n = 0
  · subst h0
    obtain rfl := List.eq_nil_of_length_eq_zero hx.len
    clear hx hn
    go_enter Tryz.func48, Tryz.ntmps48
    go_wp2_with fail
    refine Calls.mono (R := fun e w' => e = .returned (.int .i64 (-1)) ∧ w' = w) ?_ ?_
    · go_enter Tryz.func69, Tryz.ntmps69
      go_wp2
      refine wp_loop_rounds 1 ?_
      rw [rounds_succ]
      go_wp2
      go_ret
      exact ⟨rfl, rfl⟩
    · rintro e w' ⟨rfl, rfl⟩
      go_wp2
      go_ret
      exact ⟨rfl, Below.refl _ _⟩
  obtain ⟨b, off, rfl, hb, hc⟩ := hx.at0 (by omega)
  have hl := hx.len
  have eg : ∀ args w, (callFunc 49 args).run Tryz.prog w = .ok (.enter 49 args) w := enters_of Tryz.func49 (by kernel_rfl) rfl
  have h := AnyQ.slices_ContainsFunc Tryz.lContSpn 3 Tryz.isAgg41 Tryz.sizeOf41 spnC spnC_len (fun x => !mayS x) 49 #[] eg b off n c xs w
    (fun W x hb' => (notmay_any x W).mono fun _ _ h => ⟨h.1, hb'.trans (h.2.mono hb'.size)⟩) (by omega) (by omega) hb (fun j hj i v hi => by
      have hg : xs[j]? = some xs[j]! := by rw [List.getElem?_eq_getElem hj, getElem!_pos xs j hj]
      exact hc j _ hg i v hi)
  refine Calls.mono h ?_
  rintro e w' ⟨rfl, hb'⟩
  refine ⟨?_, hb'⟩
  rw [List.take_of_length_le (by omega)]
  congr 2
  simp [mayAll, List.all_eq_not_any_not]

theorem clonspn_any (a : Option Addr) (n c : Nat) (xs : List Spn) (w : World) (hx : SlSp w a n c xs) (hn : n ≤ 100000) :
    Calls Tryz.prog 50 #[.slice a n c] w fun e w' => ∃ v, e = .returned v ∧ OwnR spnC 3 41 w.heap.size w' v n xs ∧ Below w.heap.size w w' := by
  by_cases h0 : n = 0
  · subst h0
    obtain rfl := List.eq_nil_of_length_eq_zero hx.len
    cases a with
    | none =>
      refine (AnyE.slices_Clone_nil Tryz.lClonSpn 0 c w).mono ?_
      rintro e w' ⟨rfl, rfl⟩
      exact ⟨_, rfl, OwnR.nil _ _ _ _ _, Below.refl _ _⟩
    | some ad =>
      clear hx hn
      have hB : Below w.heap.size w (w.alloc (.cells #[] 41)) := (Below.refl _ _).alloc (Nat.le_refl _) _
      have q22 : ∀ (w : World) (a : Option Addr) (n c n' c' : Nat), (binOp .eql 24 (.slice a n c) (.slice none n' c')).run Tryz.prog w = .ok (.bool a.isNone) w := fun w a n c n' c' => Lib.run_eql_slice_nil w _ _ a n c n' c' Tryz.underlying24
      obtain ⟨i, hi, hz0, hz1, hz2⟩ := info_parts info_spn
      go_enter Tryz.func50, Tryz.ntmps50
      go_wp2_with (at_builtin; refine wpList_append_zero rfl _ _ 24 rfl 41 i Tryz.underlying24 hi (some ⟨w.heap.size, 0, none⟩) (some ad) 0 0 c (Nat.le_refl _) rfl rfl ?_)
      go_ret
      exact ⟨_, rfl, ⟨rfl, World.ownsRow_made w #[] 0 (Nat.le_refl _) (Nat.zero_le _) (by simp)⟩, hB⟩
  obtain ⟨b, off, rfl, hb, hc⟩ := hx.at0 (by omega)
  have hl := hx.len
  obtain ⟨i, hi, hz0, hz1, hz2⟩ := info_parts info_spn
  have h := AnyE.slices_Clone Tryz.lClonSpn i _ 3 24 hi hz0 hz1 hz2 rfl (by decide) Tryz.sizeOf41 b off n c (xs.flatMap spnC) w (by rw [flatMap_len spnC_len, hl]) (by unfold maxLen; omega) (by omega)
    (SlR.flat spnC_len (by decide) hc) (fun u hu => by obtain ⟨x, _, hxu⟩ := List.mem_flatMap.1 hu; exact spnC_one x u hxu)
  refine Calls.mono h ?_
  rintro e w' ⟨v, rfl, hown, _, hb'⟩
  exact ⟨v, rfl, ⟨hl, hown⟩, hb'⟩

/-- The comparison by Lo. -/
theorem cmplo_any (x y : Spn) (W : World) : Calls Tryz.prog 52 #[.agg #[.int .i64 x.lo, .int .i64 x.hi, .bool x.walk], .agg #[.int .i64 y.lo, .int .i64 y.hi, .bool y.walk]] W fun e w' => e = .returned (.int .i64 (Lib.compareInt x.lo y.lo)) ∧ ∃ q os', w' = grow (W.drewN q) os' := by
  have hcon := fun W' => AnyG.cmp_Compare_int Tryz.lCmpInt x.lo y.lo W'
  change ∀ W', Calls Tryz.prog 53 _ _ _ at hcon
  generalize Lib.compareInt x.lo y.lo = r at hcon ⊢
  go_enter Tryz.func52, Tryz.ntmps52
  go_wp2_with (go_at_call 53; refine (hcon _).mono ?_; rintro e w' ⟨rfl, rfl⟩)
  go_ret
  exact ⟨rfl, 0, _, by rw [alloc_eq_grow, alloc_eq_grow, grow_grow]; rfl⟩

def cmpLo (x y : Spn) : Int := Lib.compareInt x.lo y.lo
theorem ltLo (x y : Spn) : ltOf cmpLo x y = decide (x.lo < y.lo) := by
  unfold ltOf cmpLo Lib.compareInt
  by_cases h1 : x.lo < y.lo
  · simp [h1]
  · by_cases h2 : y.lo < x.lo <;> simp [h1, h2]
theorem swoLo : SWO (ltOf cmpLo) where
  irrefl x := by rw [ltLo]; simp
  trans x y z h1 h2 := by rw [ltLo] at *; simp at *; omega
  ntrans x y z h1 h2 := by rw [ltLo] at *; simp at *; omega

theorem sortspn_any (v : Value) (n : Nat) (xs : List Spn) (B : Nat) (w : World) (hown : OwnR spnC 3 41 B w v n xs) (hn : n ≤ 100000) :
    Calls Tryz.prog 51 #[v, .func (.func 52) #[] #[]] w fun e w' => e = .returned (.tuple #[]) ∧ ∃ ys a c, v = .slice a n c ∧ ys.Perm xs ∧ ys.Pairwise (fun p q => p.lo ≤ q.lo) ∧ SlSp w' a n c ys ∧ Below B w w' := by
  have hl := hown.1
  by_cases h0 : n = 0
  · subst h0
    obtain rfl := List.eq_nil_of_length_eq_zero hl
    obtain ⟨a, c, rfl, hs⟩ := OwnR.reads spnC_len hown
    refine (AnyF.slices_SortFunc_none Tryz.lSortSpn a c _ w).mono ?_
    rintro e w' ⟨rfl, rfl⟩
    exact ⟨rfl, [], a, c, rfl, List.Perm.refl _, List.Pairwise.nil, hs, Below.refl _ _⟩
  rcases hown.2.2 with ⟨_, hx⟩ | ⟨g, cap, cur, rfl, hBg, hg, h1, h2, h3, h4⟩
  · exact absurd hx h0
  have hH := holdsK_of_own spnC_len hown
  have hgs : g < w.heap.size := (Array.getElem?_eq_some_iff.1 hg).1
  have eg : ∀ args w, (callFunc 52 args).run Tryz.prog w = .ok (.enter 52 args) w := enters_of Tryz.func52 (by kernel_rfl) rfl
  have h := AnyQ.slices_SortFunc Tryz.lSortSpn 3 Tryz.isAgg41 Tryz.sizeOf41 spnC spnC_len spnC_one cmpLo swoLo 52 #[] g 0 cap xs.toArray w eg (fun _ _ _ _ x y => cmplo_any x y _) hH hgs (by simp; omega)
  have hsz : xs.toArray.size = n := by simpa using hl
  rw [hsz] at h
  refine Calls.mono h ?_
  rintro e w' ⟨rfl, d', m, os, hp, hs, rfl⟩
  have hds : d'.size = xs.toArray.size := hp.1
  have hr := sortK_reads spnC_len (m := m) (cap := cap) (os := os) hH hgs hds (by omega) (by simpa [maxLen] using h2)
  rw [hds, hsz] at hr
  have hp' : PermIn 0 xs.toArray.size xs.toArray d' := by rw [hsz]; exact hp
  have hs' : SortedIn (ltOf cmpLo) 0 xs.toArray.size d' := by rw [hsz]; exact hs
  have q1 := permIn_perm hp'
  have q2 := sortedIn_pairwise hds hs'
  refine ⟨rfl, d'.toList, _, _, rfl, by simpa using q1, ?_, hr, sortK_below hgs hBg⟩
  refine q2.imp ?_
  intro p q hpq
  rw [ltLo] at hpq
  simp at hpq
  exact hpq

end Go.Proofs.YtjiklfffcnfdjaaGreat

namespace Go.Proofs.YtjiklfffcnfdjaaGreat
open Go.RowKit

theorem own_self {α : Type} {f : α → List Value} {sz : Nat} {e : TypeId} {B : Nat} {w : World} {v : Value} {n : Nat} {xs : List α} (h : OwnR f sz e B w v n xs) : OwnR f sz e B w v xs.length xs := by rw [h.1]; exact h
/-- Where Merge stands. -/
def MgAt (n : Nat) (d : List Spn) (w3 : World) (v i : Value) (wr : World) : Prop :=
  ∃ (k : Nat) (ys : List Spn), i = .int .i64 k ∧ k ≤ n ∧ Hid (ys = mstL d k) ∧ OwnR spnC 3 41 w3.heap.size wr v ys.length ys ∧ Below w3.heap.size w3 wr

set_option maxRecDepth 100000 in
set_option maxHeartbeats 4000000 in
theorem merge_any (a : Option Addr) (n c : Nat) (xs : List Spn) (w : World) (hx : SlSp w a n c xs) (hn : n ≤ 100000) :
    Calls Tryz.prog 38 #[.slice a n c] w (mrgPost xs w) := by
  have Hl := Lib.hid hx.len
  have hmax := hx.max
  have hle := hx.le
  have Hx := Lib.hid hx; clear hx
  go_enter Tryz.func38, Tryz.ntmps38
  go_wp2_with fail
  refine (contspn_any a n c xs _ Hx.out hn).mono ?_
  rintro e w1 ⟨rfl, hb1⟩
  obtain ⟨r, hr⟩ : ∃ r, Hid (r = mayAll xs) := ⟨_, rfl⟩
  rw [← hr.out]
  cases r with
  | false =>
    go_wp2
    go_ret2
    unfold mrgPost
    rw [mrgR_not hr.out.symm, mrgE_not hr.out.symm]
    exact ⟨_, rfl, OwnR.nil _ _ _ _ _, hb1⟩
  | true =>
    go_wp2_with fail
    refine (clonspn_any a n c xs _ (Hx.out.below hb1 (Nat.le_refl _)) hn).mono ?_
    rintro e w2 ⟨vc, rfl, hownc, hb2⟩
    go_wp2_with fail
    refine (sortspn_any vc n xs w1.heap.size _ hownc hn).mono ?_
    rintro e w3 ⟨rfl, ds, a3, c3, rfl, hperm, hsort, hsl, hb3⟩
    have Hs := Lib.hid hsl
    have Hd := Lib.hid hsl.len
    have hle3 := hsl.le
    have hmax3 := hsl.max
    have hb : Below w.heap.size w w3 := hb1.trans ((hb2.trans hb3).mono hb1.size)
    have HE : Hid (mstL ds n = mrgL xs) := by
      show _ = _
      unfold mstL
      rw [List.take_of_length_le (by rw [Hd.out]; exact Nat.le_refl _)]
      exact msteps_eq (mayAll_ups hr.out.symm) hperm hsort
    clear hsl hperm hsort hb1 hb2 hb3 hownc
    go_wp2
    go_loopw [2, 16] (fun v i wr => MgAt n ds w3 v i wr) (fun _ i _ => n - (intOf i).toNat)
    case atStart => exact ⟨0, [], rfl, Nat.zero_le _, rfl, OwnR.nil _ _ _ _ _, Below.refl _ _⟩
    case round =>
      obtain ⟨k, ys, rfl, hk, Hys, hown, hbr⟩ := hrel
      have hyl : ys.length ≤ k := by
        have h1 := mstL_len ds k
        rw [← Hys.out] at h1
        exact h1
      by_cases hlt : k < n
      · obtain ⟨b, off, rfl, hbl, hc⟩ := (Hs.out.below hbr (Nat.le_refl _)).at0 (by omega)
        obtain ⟨x, hxk⟩ : ∃ x, ds[k]? = some x := ⟨_, List.getElem?_eq_getElem (by rw [Hd.out]; exact hlt)⟩
        obtain ⟨c1, c2, c3'⟩ := SlSp.cells hc hxk
        have HY : Hid (mstL ds (k + 1) = mstep ys x) := by show _ = _; rw [mstL_succ hxk, Hys.out]
        obtain ⟨xlo, xhi, xwk⟩ := x
        clear hc hxk Hys
        simp only at c1 c2 c3'
        obtain ⟨av, cv, rfl, hrd⟩ := OwnR.reads spnC_len hown
        have hlec := hrd.le
        have hmaxv := hrd.max
        by_cases hm0 : ys.length = 0
        · obtain rfl : ys = [] := List.eq_nil_of_length_eq_zero hm0
          simp only [List.length_nil] at hown hlec
          have HN : Hid (mstL ds (k + 1) = [⟨xlo, xhi, xwk⟩]) := by show _ = _; rw [HY.out]; rfl
          clear HY hrd hm0
          go_wp2
          refine wp_named (F := fun w0 => Below wr.heap.size wr w0 ∧ w0.cell? ⟨wr.heap.size, 0, none⟩ = some (.int .i64 xlo) ∧ w0.cell? ⟨wr.heap.size, 1, none⟩ = some (.int .i64 xhi) ∧ w0.cell? ⟨wr.heap.size, 2, none⟩ = some (.bool xwk)) ⟨(Below.refl _ _).alloc (Nat.le_refl _) _, World.cell?_alloc_at _ _ _ _ rfl, World.cell?_alloc_at _ _ _ _ rfl, World.cell?_alloc_at _ _ _ _ rfl⟩ ?_
          rintro w4 ⟨hb4, d1, d2, d3⟩
          have hown4 := hown.below hb4 (Nat.le_refl _)
          have hbr4 := hbr.trans (hb4.mono hbr.size)
          have e_d1 := fun d os => cell_regrown d1 d os
          have e_d2 := fun d os => cell_regrown d2 d os
          have e_d3 := fun d os => cell_regrown d3 d os
          clear d1 d2 d3
          refine wp_region_quiet_below (by kernel_rfl) (by kernel_rfl) ?_
          repeat (go_big_quiet_step (fail))
          refine wpQuiet_nil ?_
          rintro w5 ⟨⟨dq, osq⟩, hw''⟩
          have hbr5 : Below w3.heap.size w3 w5 := by rw [hw'']; exact hbr4.trans ((below_regrown w4 dq osq).mono hbr4.size)
          have hstep : Below w4.heap.size w4 w5 := by rw [hw'']; exact below_regrown w4 dq osq
          have d1 := e_d1 dq osq
          rw [← hw''] at d1
          have d2 := e_d2 dq osq
          rw [← hw''] at d2
          have d3 := e_d3 dq osq
          rw [← hw''] at d3
          clear hw'' e_d1 e_d2 e_d3
          have hown5 := hown4.below hstep (Nat.le_refl _)
          have hsz5 := hbr5.size
          clear hstep hown4 hbr4 hb4 hown hbr c1 c2 c3'
          go_wp2_with (at_builtin; refine wpList_appR (f := spnC) (sz := 3) (e := 41) (B := w3.heap.size) (n := 0) (xs := []) _ spnC_len spnC_one rfl _ _ 24 rfl (.agg #[.int .i64 0, .int .i64 0, .bool false]) 24 Tryz.underlying24 info_spn rfl (by decide) ⟨xlo, xhi, xwk⟩ 41 hown5 rfl rfl (by omega) (by omega) (by omega) ?_; intro v' w' hown' happ)
          have hb6 := hbr5.trans (happ.below (B := w3.heap.size) hbr5.size (fun j hj => hown5.le j hj))
          clear happ hbr5 hown5
          go_wp2
          go_roundw
          case rel => exact ⟨k + 1, [⟨xlo, xhi, xwk⟩], by go_num, by omega, Lib.hid (HN.out.symm), own_self hown', hb6⟩
          case measure => simp [intOf]; omega
        · obtain ⟨bo, oo, rfl, hbo, hco⟩ := hrd.at0 (by omega)
          obtain ⟨y, hyk⟩ : ∃ y, ys[ys.length - 1]? = some y := ⟨_, List.getElem?_eq_getElem (by omega)⟩
          obtain ⟨p1, p2, p3⟩ := SlSp.cells hco hyk
          obtain ⟨m, hm⟩ : ∃ m, ys.length = m + 1 := ⟨ys.length - 1, by omega⟩
          rw [hm] at hown hlec hyl
          rw [hm, Nat.add_sub_cancel] at hyk p1 p2 p3
          have Hyk := Lib.hid hyk
          have Hco := Lib.hid hco
          obtain ⟨ylo, yhi, ywk⟩ := y
          clear hyk hco hrd
          simp only at p1 p2 p3
          have hmc : m ≤ cv := by omega
          have hm63 : m ≤ 9223372036854775807 := by omega
          have hwm : IntKind.i64.wrap (m : Int) = (m : Int) := by rw [IntKind.wrap_i64]; omega
          clear hm0
          by_cases hle' : xlo ≤ yhi
          · have HN : Hid (mstL ds (k + 1) = ys.take m ++ [joinS ⟨ylo, yhi, ywk⟩ ⟨xlo, xhi, xwk⟩]) := by show _ = _; rw [HY.out]; exact mstep_join hm Hyk.out hle'
            clear HY Hyk
            go_wp2
            refine wp_named (F := fun w0 => Below wr.heap.size wr w0 ∧ w0.cell? ⟨wr.heap.size, 0, none⟩ = some (.int .i64 xlo) ∧ w0.cell? ⟨wr.heap.size, 1, none⟩ = some (.int .i64 xhi) ∧ w0.cell? ⟨wr.heap.size, 2, none⟩ = some (.bool xwk)) ⟨(Below.refl _ _).alloc (Nat.le_refl _) _, World.cell?_alloc_at _ _ _ _ rfl, World.cell?_alloc_at _ _ _ _ rfl, World.cell?_alloc_at _ _ _ _ rfl⟩ ?_
            rintro w4 ⟨hb4, d1, d2, d3⟩
            have hown4 := hown.below hb4 (Nat.le_refl _)
            have hbr4 := hbr.trans (hb4.mono hbr.size)
            have q1 := hbc hb4 p1
            have q2 := hbc hb4 p2
            have q3 := hbc hb4 p3
            have hbo4 : bo < w4.heap.size := Nat.lt_of_lt_of_le hbo hb4.size
            have HC4 := Lib.hid (fun (i : Nat) (x : Spn) (hx : ys[i]? = some x) (j : Nat) (u : Value) (hu : (spnC x)[j]? = some u) => hbc hb4 (Hco.out i x hx j u hu))
            clear p1 p2 p3
            have e_d1 := fun d os => cell_regrown d1 d os
            have e_d2 := fun d os => cell_regrown d2 d os
            have e_d3 := fun d os => cell_regrown d3 d os
            have e_q1 := fun d os => cell_regrown q1 d os
            have e_q2 := fun d os => cell_regrown q2 d os
            have e_q3 := fun d os => cell_regrown q3 d os
            clear d1 d2 d3 q1 q2 q3
            refine wp_region_quiet_below (by kernel_rfl) (by kernel_rfl) ?_
            repeat (go_big_quiet_step (fail))
            refine wpQuiet_nil ?_
            rintro w5 ⟨⟨dq, osq⟩, hw''⟩
            have hbr5 : Below w3.heap.size w3 w5 := by rw [hw'']; exact hbr4.trans ((below_regrown w4 dq osq).mono hbr4.size)
            have hstep : Below w4.heap.size w4 w5 := by rw [hw'']; exact below_regrown w4 dq osq
            have d1 := e_d1 dq osq
            rw [← hw''] at d1
            have d2 := e_d2 dq osq
            rw [← hw''] at d2
            have d3 := e_d3 dq osq
            rw [← hw''] at d3
            have q1 := e_q1 dq osq
            rw [← hw''] at q1
            have q2 := e_q2 dq osq
            rw [← hw''] at q2
            have q3 := e_q3 dq osq
            rw [← hw''] at q3
            clear hw'' e_d1 e_d2 e_d3 e_q1 e_q2 e_q3
            have hown5 := hown4.below hstep (Nat.le_refl _)
            have hsz5 := hbr5.size
            have hbo5 : bo < w5.heap.size := Nat.lt_of_lt_of_le hbo4 hstep.size
            have HC5 := Lib.hid (fun (i : Nat) (x : Spn) (hx : ys[i]? = some x) (j : Nat) (u : Value) (hu : (spnC x)[j]? = some u) => hbc hstep (HC4.out i x hx j u hu))
            clear hstep hown4 hbr4 hb4 hown hbr c1 c2 c3' hbo4 hbo Hco HC4
            obtain ⟨jn, hjn⟩ : ∃ jn, Hid (jn = joinS ⟨ylo, yhi, ywk⟩ ⟨xlo, xhi, xwk⟩) := ⟨_, rfl⟩
            have Hj := join_any ⟨ylo, yhi, ywk⟩ ⟨xlo, xhi, xwk⟩
            rw [← hjn.out] at HN Hj
            have Hj' := Lib.hid Hj
            clear Hj hjn
            have hdr : Below w5.heap.size w5 w5.drew := ⟨rfl, rfl, rfl, Nat.le_refl _, fun _ _ => rfl⟩
            go_wp2
            by_cases hmz : m = 0
            · subst hmz
              simp only [Nat.zero_mul, Nat.add_zero] at q1 q2 q3
              have hw0 : IntKind.i64.wrap 0 = 0 := by decide
              go_region_held_law (fun WW => WW.cell? ⟨wr.heap.size, 0, none⟩ = some (.int .i64 xlo) ∧ WW.cell? ⟨wr.heap.size, 1, none⟩ = some (.int .i64 xhi) ∧ WW.cell? ⟨wr.heap.size, 2, none⟩ = some (.bool xwk) ∧ WW.cell? ⟨bo, oo, none⟩ = some (.int .i64 ylo) ∧ WW.cell? ⟨bo, oo + 1, none⟩ = some (.int .i64 yhi) ∧ WW.cell? ⟨bo, oo + 2, none⟩ = some (.bool ywk))
                (first
                  | assumption
                  | exact ⟨d1, d2, d3, q1, q2, q3⟩
                  | exact ⟨z1, z2, z3, z4, z5, z6⟩
                  | exact ⟨hbc ((Below.refl _ _).alloc (Nat.le_refl _) _) z1, hbc ((Below.refl _ _).alloc (Nat.le_refl _) _) z2, hbc ((Below.refl _ _).alloc (Nat.le_refl _) _) z3, hbc ((Below.refl _ _).alloc (Nat.le_refl _) _) z4, hbc ((Below.refl _ _).alloc (Nat.le_refl _) _) z5, hbc ((Below.refl _ _).alloc (Nat.le_refl _) _) z6⟩
                  | exact ⟨hbc happ z1, hbc happ z2, hbc happ z3, hbc happ z4, hbc happ z5, hbc happ z6⟩
                  | fail)
                (first
                  | (go_at_call 54; refine (Hj'.out _).mono ?_; rintro e wz ⟨rfl, hbz⟩; have z1 := hbc hbz d1; have z2 := hbc hbz d2; have z3 := hbc hbz d3; have z4 := hbc hbz q1; have z5 := hbc hbz q2; have z6 := hbc hbz q3; have hboz : bo < wz.heap.size := Nat.lt_of_lt_of_le hbo5 hbz.size; have HCz := Lib.hid (fun (i : Nat) (x : Spn) (hx : ys[i]? = some x) (j : Nat) (u : Value) (hu : (spnC x)[j]? = some u) => hbc hbz (HC5.out i x hx j u hu)); have hbrz : Below w3.heap.size w3 wz := hbr5.trans ((hdr.trans hbz).mono hbr5.size))
                  | (refine step_appJ (f := spnC) (sz := 3) (e := 41) _ spnC_len spnC_one rfl _ _ 24 rfl (.agg #[.int .i64 0, .int .i64 0, .bool false]) 24 Tryz.underlying24 info_spn rfl (by decide) jn 41 bo oo 0 (ys.take 0) (by rw [List.length_take]; omega) hboz (fun i x hx j u hu => HCz.out i x (by rw [List.getElem?_take] at hx; split at hx; exact hx; cases hx) j u hu) rfl rfl (by omega) (by omega) ?_; intro v' w' hown' happ)
                  | fail)
              rename_i hH
              clear hH
              have hb7 := hbrz.trans (happ.mono hbrz.size)
              have hown7 := hown'.mono hbrz.size
              clear happ hbrz hown'
              go_wp2
              go_roundw
              case rel => exact ⟨k + 1, ys.take 0 ++ [jn], by go_num, by omega, Lib.hid (HN.out.symm), own_self hown7, hb7⟩
              case measure => simp [intOf]; omega
            · have hmp : 0 < m := by omega
              go_region_held_law (fun WW => WW.cell? ⟨wr.heap.size, 0, none⟩ = some (.int .i64 xlo) ∧ WW.cell? ⟨wr.heap.size, 1, none⟩ = some (.int .i64 xhi) ∧ WW.cell? ⟨wr.heap.size, 2, none⟩ = some (.bool xwk) ∧ WW.cell? ⟨bo, oo + m * 3, none⟩ = some (.int .i64 ylo) ∧ WW.cell? ⟨bo, oo + m * 3 + 1, none⟩ = some (.int .i64 yhi) ∧ WW.cell? ⟨bo, oo + m * 3 + 2, none⟩ = some (.bool ywk))
                (first
                  | assumption
                  | exact ⟨d1, d2, d3, q1, q2, q3⟩
                  | exact ⟨z1, z2, z3, z4, z5, z6⟩
                  | exact ⟨hbc ((Below.refl _ _).alloc (Nat.le_refl _) _) z1, hbc ((Below.refl _ _).alloc (Nat.le_refl _) _) z2, hbc ((Below.refl _ _).alloc (Nat.le_refl _) _) z3, hbc ((Below.refl _ _).alloc (Nat.le_refl _) _) z4, hbc ((Below.refl _ _).alloc (Nat.le_refl _) _) z5, hbc ((Below.refl _ _).alloc (Nat.le_refl _) _) z6⟩
                  | exact ⟨hbc happ z1, hbc happ z2, hbc happ z3, hbc happ z4, hbc happ z5, hbc happ z6⟩
                  | fail)
                (first
                  | (go_at_call 54; refine (Hj'.out _).mono ?_; rintro e wz ⟨rfl, hbz⟩; have z1 := hbc hbz d1; have z2 := hbc hbz d2; have z3 := hbc hbz d3; have z4 := hbc hbz q1; have z5 := hbc hbz q2; have z6 := hbc hbz q3; have hboz : bo < wz.heap.size := Nat.lt_of_lt_of_le hbo5 hbz.size; have HCz := Lib.hid (fun (i : Nat) (x : Spn) (hx : ys[i]? = some x) (j : Nat) (u : Value) (hu : (spnC x)[j]? = some u) => hbc hbz (HC5.out i x hx j u hu)); have hbrz : Below w3.heap.size w3 wz := hbr5.trans ((hdr.trans hbz).mono hbr5.size))
                  | (refine step_appJ (f := spnC) (sz := 3) (e := 41) _ spnC_len spnC_one rfl _ _ 24 rfl (.agg #[.int .i64 0, .int .i64 0, .bool false]) 24 Tryz.underlying24 info_spn rfl (by decide) jn 41 bo oo m (ys.take m) (by rw [List.length_take]; omega) hboz (fun i x hx j u hu => HCz.out i x (by rw [List.getElem?_take] at hx; split at hx; exact hx; cases hx) j u hu) rfl rfl (by omega) (by omega) ?_; intro v' w' hown' happ)
                  | fail)
              rename_i hH
              clear hH
              have hb7 := hbrz.trans (happ.mono hbrz.size)
              have hown7 := hown'.mono hbrz.size
              clear happ hbrz hown'
              go_wp2
              go_roundw
              case rel => exact ⟨k + 1, ys.take m ++ [jn], by go_num, by omega, Lib.hid (HN.out.symm), own_self hown7, hb7⟩
              case measure => simp [intOf]; omega
          · have HN : Hid (mstL ds (k + 1) = ys ++ [⟨xlo, xhi, xwk⟩]) := by show _ = _; rw [HY.out]; exact mstep_app hm Hyk.out hle'
            clear HY Hyk
            go_wp2
            refine wp_named (F := fun w0 => Below wr.heap.size wr w0 ∧ w0.cell? ⟨wr.heap.size, 0, none⟩ = some (.int .i64 xlo) ∧ w0.cell? ⟨wr.heap.size, 1, none⟩ = some (.int .i64 xhi) ∧ w0.cell? ⟨wr.heap.size, 2, none⟩ = some (.bool xwk)) ⟨(Below.refl _ _).alloc (Nat.le_refl _) _, World.cell?_alloc_at _ _ _ _ rfl, World.cell?_alloc_at _ _ _ _ rfl, World.cell?_alloc_at _ _ _ _ rfl⟩ ?_
            rintro w4 ⟨hb4, d1, d2, d3⟩
            have hown4 := hown.below hb4 (Nat.le_refl _)
            have hbr4 := hbr.trans (hb4.mono hbr.size)
            have q1 := hbc hb4 p1
            have q2 := hbc hb4 p2
            have q3 := hbc hb4 p3
            have hbo4 : bo < w4.heap.size := Nat.lt_of_lt_of_le hbo hb4.size
            have HC4 := Lib.hid (fun (i : Nat) (x : Spn) (hx : ys[i]? = some x) (j : Nat) (u : Value) (hu : (spnC x)[j]? = some u) => hbc hb4 (Hco.out i x hx j u hu))
            clear p1 p2 p3
            have e_d1 := fun d os => cell_regrown d1 d os
            have e_d2 := fun d os => cell_regrown d2 d os
            have e_d3 := fun d os => cell_regrown d3 d os
            have e_q1 := fun d os => cell_regrown q1 d os
            have e_q2 := fun d os => cell_regrown q2 d os
            have e_q3 := fun d os => cell_regrown q3 d os
            clear d1 d2 d3 q1 q2 q3
            refine wp_region_quiet_below (by kernel_rfl) (by kernel_rfl) ?_
            repeat (go_big_quiet_step (fail))
            refine wpQuiet_nil ?_
            rintro w5 ⟨⟨dq, osq⟩, hw''⟩
            have hbr5 : Below w3.heap.size w3 w5 := by rw [hw'']; exact hbr4.trans ((below_regrown w4 dq osq).mono hbr4.size)
            have hstep : Below w4.heap.size w4 w5 := by rw [hw'']; exact below_regrown w4 dq osq
            have d1 := e_d1 dq osq
            rw [← hw''] at d1
            have d2 := e_d2 dq osq
            rw [← hw''] at d2
            have d3 := e_d3 dq osq
            rw [← hw''] at d3
            have q1 := e_q1 dq osq
            rw [← hw''] at q1
            have q2 := e_q2 dq osq
            rw [← hw''] at q2
            have q3 := e_q3 dq osq
            rw [← hw''] at q3
            clear hw'' e_d1 e_d2 e_d3 e_q1 e_q2 e_q3
            have hown5 := hown4.below hstep (Nat.le_refl _)
            have hsz5 := hbr5.size
            have hbo5 : bo < w5.heap.size := Nat.lt_of_lt_of_le hbo4 hstep.size
            have HC5 := Lib.hid (fun (i : Nat) (x : Spn) (hx : ys[i]? = some x) (j : Nat) (u : Value) (hu : (spnC x)[j]? = some u) => hbc hstep (HC4.out i x hx j u hu))
            clear hstep hown4 hbr4 hb4 hown hbr c1 c2 c3' hbo4 hbo Hco HC4
            go_wp2_with (at_builtin; refine wpList_appR (f := spnC) (sz := 3) (e := 41) (B := w3.heap.size) (n := m + 1) (xs := ys) _ spnC_len spnC_one rfl _ _ 24 rfl (.agg #[.int .i64 0, .int .i64 0, .bool false]) 24 Tryz.underlying24 info_spn rfl (by decide) ⟨xlo, xhi, xwk⟩ 41 hown5 rfl rfl (by omega) (by omega) (by omega) ?_; intro v' w' hown' happ)
            have hb6 := hbr5.trans (happ.below (B := w3.heap.size) hbr5.size (fun j hj => hown5.le j hj))
            clear happ hbr5 hown5
            go_wp2
            go_roundw
            case rel => exact ⟨k + 1, ys ++ [⟨xlo, xhi, xwk⟩], by go_num, by omega, Lib.hid (HN.out.symm), own_self hown', hb6⟩
            case measure => simp [intOf]; omega
      · obtain rfl : k = n := by omega
        rw [HE.out] at Hys
        go_wp2
        go_ret2
        unfold mrgPost
        rw [mrgR_of hr.out.symm, mrgE_of hr.out.symm, ← Hys.out]
        exact ⟨_, rfl, hown.mono hb.size, hb.trans (hbr.mono hb.size)⟩
end Go.Proofs.YtjiklfffcnfdjaaGreat

namespace Go.Proofs.YtjiklfffcnfdjaaGreat
open Go.RowKit

theorem SlSp.lit (w : World) (l : List Spn) (e : TypeId) (hl : l.length ≤ 9223372036854775807) : SlSp (w.alloc (.cells (l.flatMap spnC).toArray e)) (some ⟨w.heap.size, 0, none⟩) l.length l.length l := by
  refine ⟨rfl, Nat.le_refl _, hl, .inr ⟨w.heap.size, 0, rfl, by simp, fun i x hx j v hv => ?_⟩⟩
  rw [World.cell?_alloc_at _ _ _ _ rfl]
  have := flatMap_at spnC_len l i x j v hx hv
  rw [Nat.zero_add]
  simpa using this

theorem wkA : mrgE [⟨0, 2, false⟩, ⟨2, 5, true⟩] = 0 ∧ mrgR [⟨0, 2, false⟩, ⟨2, 5, true⟩] = [⟨0, 5, true⟩] := by decide
theorem wkB : mrgE [⟨0, 6, false⟩, ⟨2, 5, true⟩] = 0 ∧ mrgR [⟨0, 6, false⟩, ⟨2, 5, true⟩] = [⟨0, 6, false⟩] := by decide
theorem wkC : mrgE [⟨0, 1, false⟩, ⟨2, 3, false⟩] = 0 ∧ mrgR [⟨0, 1, false⟩, ⟨2, 3, false⟩] = [⟨0, 1, false⟩, ⟨2, 3, false⟩] := by decide

end Go.Proofs.YtjiklfffcnfdjaaGreat
