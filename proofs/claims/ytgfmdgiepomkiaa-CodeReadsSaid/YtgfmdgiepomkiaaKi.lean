/- A whole row appended to a row of one's own. -/
import Derived.Test.YtgfmdgiepomkiaaGp
import Derived.Deep.AppendLies
import Derived.Laws.OwnMore
import Derived.Test.YtgfmdgiepomkiaaKh
namespace Go.Proofs.Ytgfmdgiepomkiaa
open Go.RowKit
theorem flatMap_lenA {α : Type} {f : α → List Value} {sz : Nat} (hf : ∀ x, (f x).length = sz) (l : List α) : (l.flatMap f).length = l.length * sz := by
  induction l with
  | nil => simp
  | cons y l ih => rw [List.flatMap_cons, List.length_append, hf, ih, List.length_cons, Nat.succ_mul, Nat.add_comm]
theorem flatMap_invA {α : Type} {f : α → List Value} {sz : Nat} (hf : ∀ x, (f x).length = sz) (hsz : 0 < sz) {l : List α} {j : Nat} {u : Value} (h : (l.flatMap f)[j]? = some u) : ∃ x, l[j / sz]? = some x ∧ (f x)[j % sz]? = some u := by
  have hlen := flatMap_lenA hf l
  have hj : j < l.length * sz := by rw [← hlen]; exact (List.getElem?_eq_some_iff.1 h).1
  have hd : j / sz < l.length := Nat.div_lt_of_lt_mul (by rw [Nat.mul_comm]; exact hj)
  have hm : j % sz < (f l[j / sz]).length := by rw [hf]; exact Nat.mod_lt _ hsz
  refine ⟨l[j / sz], List.getElem?_eq_getElem hd, ?_⟩
  have h2 := flatMap_at hf l (j / sz) _ (j % sz) _ (List.getElem?_eq_getElem hd) (List.getElem?_eq_getElem hm)
  have e : j / sz * sz + j % sz = j := by rw [Nat.mul_comm]; exact Nat.div_add_mod _ _
  rw [e, h] at h2
  rw [List.getElem?_eq_getElem hm]
  exact h2.symm

/-- The row's cells, one by one. -/
theorem SlR.flatA {α : Type} {f : α → List Value} {sz : Nat} {w : World} {b off : Nat} {xs : List α} (hf : ∀ x, (f x).length = sz) (hsz : 0 < sz) (h : ∀ i x, xs[i]? = some x → ∀ j v, (f x)[j]? = some v → w.cell? ⟨b, off + i * sz + j, none⟩ = some v) :
    ∀ j u, (xs.flatMap f)[j]? = some u → w.cell? ⟨b, off + j, none⟩ = some u := by
  intro j u hu
  obtain ⟨x, hx, hxu⟩ := flatMap_invA hf hsz hu
  have := h _ _ hx _ _ hxu
  rw [Nat.add_assoc, show j / sz * sz + j % sz = j by rw [Nat.mul_comm]; exact Nat.div_add_mod _ _] at this
  exact this

theorem run_append_zero {P : Program} {w : World} (t ty e : TypeId) (i : TypeInfo) (ht : P.underlying t = some (.slice e)) (hi : P.info? e = some i) (b a : Option Addr) (n cap c : Nat) (hn : n ≤ cap) :
    (Builtin.append_ #[t, t] ty #[.slice b n cap, .slice a 0 c]).run P w = .ok (.slice b n cap) w := by
  cases b <;> cases a <;> simp [Builtin.append_, run_underlying ht, sizeOf, typeInfo, hi, Builtin.lenOf, Builtin.firstCells, hn, storeCells, loadCells, loadCellsFrom]
theorem wpList_append_zeroA {P : Program} {w : World} {ops : Array Oper} {rest : List Oper} {o : Oper} {a : Act} {Q : Exit → Act → World → Prop} (hgd : o.guard = none) (s x : Operand) (t : TypeId)
    (ho : o.op = .call { callee := .builtin .append, args := #[s, x], argTypes := #[t, t] })
    (e : TypeId) (i : TypeInfo) (ht : P.underlying t = some (.slice e)) (hi : P.info? e = some i) (b a' : Option Addr) (n cap c : Nat) (hn : n ≤ cap)
    (hs : a.eval s = .slice b n cap) (hx : a.eval x = .slice a' 0 c)
    (h : wpList P ops Q rest (a.put o.dst (.slice b n cap)) w) : wpList P ops Q (o :: rest) a w := by
  refine wpList_plain hgd fun K hK => ?_
  have hrun := run_append_zero (P := P) (w := w) t o.type e i ht hi b a' n cap c hn
  unfold Oper.wp
  simp [execOp, ho, resolve, invoke, builtin, hs, hx, hrun, Result.andThen]
  exact hK _ _ h

section
variable {α : Type} {f : α → List Value} {sz : Nat} {e : TypeId}
/-- 'append(own, l...)': a whole row behind a row of one's own. -/
theorem wpList_appSA {P : Program} (w : World) {ops : Array Oper} {rest : List Oper} {o : Oper} {a : Act} {Q : Exit → Act → World → Prop}
    (hf : ∀ x, (f x).length = sz) (h1 : ∀ x, ∀ u ∈ f x, u.oneCell' = true) (hgd : o.guard = none) (s x : Operand) (t : TypeId) (hop : o.op = Op.call { callee := Callee.builtin Builtin.append, args := #[s, x], argTypes := #[t, t] })
    (z : Value) (bytes : Nat) (ht : P.underlying t = some (.slice e)) (hi : (P.info? e).map (fun i => (i.zero, i.size, i.bytes)) = some (some z, sz, bytes)) (hz : z.cells.size = sz) (hsz : 0 < sz)
    (B : Nat) (v : Value) (n : Nat) (xs : List α) (hown : OwnR f sz e B w v n xs) (hs : a.eval s = v)
    (ad : Option Addr) (m c : Nat) (ys : List α) (hy : SlR f sz w ad m c ys) (hx : a.eval x = .slice ad m c)
    (h63 : n + m ≤ 9223372036854775807) (hbytes : (n + m) * bytes ≤ 140737488355328) (hB : B ≤ w.heap.size)
    (hK : ∀ v' w', OwnR f sz e B w' v' (n + m) (xs ++ ys) → Below B w w' → wpList P ops Q rest (a.put o.dst v') w') :
    wpList P ops Q (o :: rest) a w := by
  obtain ⟨i, hi, hz0, hz1, hz2⟩ := info_parts hi
  by_cases h0 : m = 0
  · subst h0
    obtain rfl := List.eq_nil_of_length_eq_zero hy.len
    obtain ⟨av, cv, rfl, hrd⟩ := OwnR.reads hf hown
    refine wpList_append_zeroA hgd s x t hop e i ht hi av ad n cv c hrd.le hs hx ?_
    exact hK _ _ (by simpa using hown) (Below.refl _ _)
  · obtain ⟨b, off, rfl, hb, hc⟩ := hy.at0 (by omega)
    refine wpList_append_own w hgd s x t hop B e i z sz bytes ht hi hz0 hz1 hz2 hz hsz v n (xs.flatMap f) hs hown.2 ⟨b, off, none⟩ m c (ys.flatMap f) hx (by rw [flatMap_lenA hf, hy.len]) ?_ ?_ (by simpa [maxLen] using h63) hbytes hB ?_
    · intro j u hu
      rw [Addr.add_lit]
      exact SlR.flatA hf hsz hc j u hu
    · intro u hu
      obtain ⟨x', _, hxu⟩ := List.mem_flatMap.1 hu
      exact h1 x' u hxu
    · intro v' w' q1 q2 _
      refine hK v' w' ⟨by simp [hown.1, hy.len], by simpa using q1⟩ ?_
      exact (Below.refl B w).grown q2 hB (fun j hj => hown.le j hj)
end

end Go.Proofs.Ytgfmdgiepomkiaa

namespace Go.Proofs.Ytgfmdgiepomkiaa
open Go.RowKit Go.Sort
attribute [local go_sem] Instr.index

theorem joinP_len {cf : Cfg} {a b : Rc} {up : Bool} (ha : rcBd a = true) : (joinD (prs cf a b up)).length ≤ 32 := by
  have h1 := foldD_len2 (prs cf a b up) []
  have h2 := prs_len32 (cf := cf) (b := b) (up := up) ha
  unfold joinD
  simp only [List.length_nil] at h1
  omega
set_option maxRecDepth 100000 in
set_option maxHeartbeats 16000000 in
theorem refbetween18_any (cf : Cfg) (ha : RHd) (ra : Rc) (hb : RHd) (rb : Rc) (w : World) (h1 : RcSl w ha ra) (h2 : RcSl w hb rb) (e1 : rcE cf ra = 0) (e2 : rcE cf rb = 0) :
    Calls Try.prog 97 #[cfgV cf, rcV ha ra, rcV hb rb] w (AddPost w.heap.size (betw cf ra rb) w) := by
  have PA := Lib.hid (fun W (hW : Below w.heap.size w W) => refpairs18_up cf ha ra hb rb W (h1.below hW (Nat.le_refl _)) (h2.below hW (Nat.le_refl _)) e1 e2)
  have PB := Lib.hid (fun W (hW : Below w.heap.size w W) => refpairs18_up cf hb rb ha ra W (h2.below hW (Nat.le_refl _)) (h1.below hW (Nat.le_refl _)) e2 e1)
  have PC := Lib.hid (fun W (hW : Below w.heap.size w W) => refpairs18_down cf ha ra hb rb W (h1.below hW (Nat.le_refl _)) (h2.below hW (Nat.le_refl _)) e1 e2)
  have PD := Lib.hid (fun W (hW : Below w.heap.size w W) => refpairs18_down cf hb rb ha ra W (h2.below hW (Nat.le_refl _)) (h1.below hW (Nat.le_refl _)) e2 e1)
  have HR : Hid (betw cf ra rb = joinD (prs cf ra rb true) ++ (joinD (prs cf rb ra true) ++ (joinD (prs cf ra rb false) ++ joinD (prs cf rb ra false)))) := by
    show _ = _
    rw [← betwL_one (rcOk_bd e1) (rcOk_bd e2)]
    unfold betw
    rw [if_pos ⟨e1, e2⟩]
  have l1 := joinP_len (cf := cf) (b := rb) (up := true) (rcOk_bd e1)
  have l2 := joinP_len (cf := cf) (b := ra) (up := true) (rcOk_bd e2)
  have l3 := joinP_len (cf := cf) (b := rb) (up := false) (rcOk_bd e1)
  have l4 := joinP_len (cf := cf) (b := ra) (up := false) (rcOk_bd e2)
  generalize betw cf ra rb = R at HR ⊢
  generalize joinD (prs cf ra rb true) = D1 at PA HR l1
  generalize joinD (prs cf rb ra true) = D2 at PB HR l2
  generalize joinD (prs cf ra rb false) = D3 at PC HR l3
  generalize joinD (prs cf rb ra false) = D4 at PD HR l4
  clear h1 h2 e1 e2
  obtain ⟨W1, hW1⟩ : ∃ W, W = ((w.alloc (cfO cf)).alloc (rcO ha ra)).alloc (rcO hb rb) := ⟨_, rfl⟩
  have hC := halloc (halloc (World.alloc_heap_new w (cfO cf)) (rcO ha ra)) (rcO hb rb)
  have hA := halloc (World.alloc_heap_new (w.alloc (cfO cf)) (rcO ha ra)) (rcO hb rb)
  have hR := World.alloc_heap_new ((w.alloc (cfO cf)).alloc (rcO ha ra)) (rcO hb rb)
  have hB : Below w.heap.size w (((w.alloc (cfO cf)).alloc (rcO ha ra)).alloc (rcO hb rb)) := (((Below.refl _ _).alloc (Nat.le_refl _) _).alloc (by simp) _).alloc (by simp; omega) _
  simp only [World.size_alloc] at hA hR
  rw [← hW1] at hC hA hR hB
  obtain ⟨S, hS⟩ : ∃ S, S = w.heap.size := ⟨_, rfl⟩
  rw [← hS] at hC hA hR hB PA PB PC PD ⊢
  have HS := Lib.hid hS
  clear hS
  dsimp only [cfO, cfgV, rcO, rcV] at hC hA hR hW1 PA PB PC PD ⊢
  unfold AddPost at PA PB PC PD ⊢
  have HCC := Lib.hid (And.intro hC (And.intro hA hR))
  have c0 := hcell (k := 0) (v := .int .i64 cf.clear) hC rfl
  have c1 := hcell (k := 1) (v := .int .i64 cf.climb) hC rfl
  have c2 := hcell (k := 2) (v := .int .i64 cf.height) hC rfl
  have c3 := hcell (k := 3) (v := .int .i64 cf.rise) hC rfl
  have c4 := hcell (k := 4) (v := .int .i64 cf.run) hC rfl
  have c5 := hcell (k := 5) (v := .int .i64 cf.w) hC rfl
  have c6 := hcell (k := 6) (v := .int .i64 cf.d) hC rfl
  have a0 := hcell (k := 0) (v := .int .i64 ra.x0) hA rfl
  have a1 := hcell (k := 1) (v := .int .i64 ra.z0) hA rfl
  have a2 := hcell (k := 2) (v := .int .i64 ra.x1) hA rfl
  have a3 := hcell (k := 3) (v := .int .i64 ra.z1) hA rfl
  have a4 := hcell (k := 4) (v := .int .i64 ra.area) hA rfl
  have a5 := hcell (k := 5) (v := .slice ha.ya ra.ys.length ha.yc) hA rfl
  have a6 := hcell (k := 6) (v := .slice ha.ta ra.ts.length ha.tc) hA rfl
  have b0 := hcell (k := 0) (v := .int .i64 rb.x0) hR rfl
  have b1 := hcell (k := 1) (v := .int .i64 rb.z0) hR rfl
  have b2 := hcell (k := 2) (v := .int .i64 rb.x1) hR rfl
  have b3 := hcell (k := 3) (v := .int .i64 rb.z1) hR rfl
  have b4 := hcell (k := 4) (v := .int .i64 rb.area) hR rfl
  have b5 := hcell (k := 5) (v := .slice hb.ya rb.ys.length hb.yc) hR rfl
  have b6 := hcell (k := 6) (v := .slice hb.ta rb.ts.length hb.tc) hR rfl
  clear hC hA hR
  go_enter Try.func97, Try.ntmps97
  go_upto_region 1 with fail
  rw [← hW1, ← HS.out]
  clear hW1
  have hO : OwnR drC 6 96 (S + 1 + 1 + 1) W1 (.slice none 0 0) 0 [] := OwnR.nil _ _ _ _ _
  go_wp2_with fail
  refine (PA.out _ hB).mono ?_
  rintro e w2 ⟨s2, rfl, hs2, hb2⟩
  obtain ⟨x2, k2, rfl, hSl⟩ := OwnR.reads drC_len hs2
  have hO2 := hO.below hb2 (Nat.le_refl _)
  have hB2 := hB.trans (hb2.mono (by have := HS.out; have := hB.size; omega))
  have HC2 := Lib.hid (And.intro (hkeep hb2 HCC.out.1) (And.intro (hkeep hb2 HCC.out.2.1) (hkeep hb2 HCC.out.2.2)))
  have hz2 := hblt HC2.out.2.2
  clear PA hs2 HCC hB hO hb2 c0 c1 c2 c3 c4 c5 c6 a0 a1 a2 a3 a4 a5 a6 b0 b1 b2 b3 b4 b5 b6
  go_upto_region 3 with (at_builtin; refine wpList_appSA (f := drC) (sz := 6) (e := 96) _ drC_len drC_one rfl _ _ 25 rfl (.agg #[.int .i64 0, .int .i64 0, .int .i64 0, .int .i64 0, .int .i64 0, .int .i64 0]) 48 Try.underlying25 info_dr rfl (by decide) (S + 1 + 1 + 1) _ _ _ hO2 rfl _ _ _ _ hSl rfl (by omega) (by omega) (by omega) ?_; intro v3 w3 hO3 hb3)
  have hB := hB2.trans (hb3.mono (by omega))
  have HCC := Lib.hid (And.intro (hkeepB hb3 HC2.out.1 (by omega)) (And.intro (hkeepB hb3 HC2.out.2.1 (by omega)) (hkeepB hb3 HC2.out.2.2 (by omega))))
  clear hO2 hSl hB2 HC2 hb3 hz2 w2
  obtain ⟨X1, hX⟩ : ∃ X, X = [] ++ D1 := ⟨_, rfl⟩
  have hO : OwnR drC 6 96 (S + 1 + 1 + 1) w3 v3 X1.length X1 := by rw [hX, hO3.1]; exact hO3
  have lX1 : X1.length ≤ 32 := by rw [hX, hO3.1]; omega
  have HX1 := Lib.hid hX
  clear hO3 hX
  obtain ⟨hC, hA, hR⟩ := HCC.out
  obtain ⟨y0, z0, rfl, _⟩ := OwnR.reads drC_len hO
  have c0 := hcell (k := 0) (v := .int .i64 cf.clear) hC rfl
  have c1 := hcell (k := 1) (v := .int .i64 cf.climb) hC rfl
  have c2 := hcell (k := 2) (v := .int .i64 cf.height) hC rfl
  have c3 := hcell (k := 3) (v := .int .i64 cf.rise) hC rfl
  have c4 := hcell (k := 4) (v := .int .i64 cf.run) hC rfl
  have c5 := hcell (k := 5) (v := .int .i64 cf.w) hC rfl
  have c6 := hcell (k := 6) (v := .int .i64 cf.d) hC rfl
  have a0 := hcell (k := 0) (v := .int .i64 ra.x0) hA rfl
  have a1 := hcell (k := 1) (v := .int .i64 ra.z0) hA rfl
  have a2 := hcell (k := 2) (v := .int .i64 ra.x1) hA rfl
  have a3 := hcell (k := 3) (v := .int .i64 ra.z1) hA rfl
  have a4 := hcell (k := 4) (v := .int .i64 ra.area) hA rfl
  have a5 := hcell (k := 5) (v := .slice ha.ya ra.ys.length ha.yc) hA rfl
  have a6 := hcell (k := 6) (v := .slice ha.ta ra.ts.length ha.tc) hA rfl
  have b0 := hcell (k := 0) (v := .int .i64 rb.x0) hR rfl
  have b1 := hcell (k := 1) (v := .int .i64 rb.z0) hR rfl
  have b2 := hcell (k := 2) (v := .int .i64 rb.x1) hR rfl
  have b3 := hcell (k := 3) (v := .int .i64 rb.z1) hR rfl
  have b4 := hcell (k := 4) (v := .int .i64 rb.area) hR rfl
  have b5 := hcell (k := 5) (v := .slice hb.ya rb.ys.length hb.yc) hR rfl
  have b6 := hcell (k := 6) (v := .slice hb.ta rb.ts.length hb.tc) hR rfl
  clear hC hA hR
  have hWx : ∃ W, W = w3 := ⟨_, rfl⟩
  obtain ⟨W2, rfl⟩ := hWx
  go_wp2_with fail
  refine (PB.out _ hB).mono ?_
  rintro e w2 ⟨s2, rfl, hs2, hb2⟩
  obtain ⟨x2, k2, rfl, hSl⟩ := OwnR.reads drC_len hs2
  have hO2 := hO.below hb2 (Nat.le_refl _)
  have hB2 := hB.trans (hb2.mono (by have := HS.out; have := hB.size; omega))
  have HC2 := Lib.hid (And.intro (hkeep hb2 HCC.out.1) (And.intro (hkeep hb2 HCC.out.2.1) (hkeep hb2 HCC.out.2.2)))
  have hz2 := hblt HC2.out.2.2
  clear PB hs2 HCC hB hO hb2 c0 c1 c2 c3 c4 c5 c6 a0 a1 a2 a3 a4 a5 a6 b0 b1 b2 b3 b4 b5 b6
  go_upto_region 4 with (at_builtin; refine wpList_appSA (f := drC) (sz := 6) (e := 96) _ drC_len drC_one rfl _ _ 25 rfl (.agg #[.int .i64 0, .int .i64 0, .int .i64 0, .int .i64 0, .int .i64 0, .int .i64 0]) 48 Try.underlying25 info_dr rfl (by decide) (S + 1 + 1 + 1) _ _ _ hO2 rfl _ _ _ _ hSl rfl (by omega) (by omega) (by omega) ?_; intro v3 w3 hO3 hb3)
  have hB := hB2.trans (hb3.mono (by omega))
  have HCC := Lib.hid (And.intro (hkeepB hb3 HC2.out.1 (by omega)) (And.intro (hkeepB hb3 HC2.out.2.1 (by omega)) (hkeepB hb3 HC2.out.2.2 (by omega))))
  clear hO2 hSl hB2 HC2 hb3 hz2 w2
  obtain ⟨X2, hX⟩ : ∃ X, X = X1 ++ D2 := ⟨_, rfl⟩
  have hO : OwnR drC 6 96 (S + 1 + 1 + 1) w3 v3 X2.length X2 := by rw [hX, hO3.1]; exact hO3
  have lX2 : X2.length ≤ 64 := by rw [hX, hO3.1]; omega
  have HX2 := Lib.hid hX
  clear hO3 hX
  obtain ⟨hC, hA, hR⟩ := HCC.out
  obtain ⟨y1, z1, rfl, _⟩ := OwnR.reads drC_len hO
  have c0 := hcell (k := 0) (v := .int .i64 cf.clear) hC rfl
  have c1 := hcell (k := 1) (v := .int .i64 cf.climb) hC rfl
  have c2 := hcell (k := 2) (v := .int .i64 cf.height) hC rfl
  have c3 := hcell (k := 3) (v := .int .i64 cf.rise) hC rfl
  have c4 := hcell (k := 4) (v := .int .i64 cf.run) hC rfl
  have c5 := hcell (k := 5) (v := .int .i64 cf.w) hC rfl
  have c6 := hcell (k := 6) (v := .int .i64 cf.d) hC rfl
  have a0 := hcell (k := 0) (v := .int .i64 ra.x0) hA rfl
  have a1 := hcell (k := 1) (v := .int .i64 ra.z0) hA rfl
  have a2 := hcell (k := 2) (v := .int .i64 ra.x1) hA rfl
  have a3 := hcell (k := 3) (v := .int .i64 ra.z1) hA rfl
  have a4 := hcell (k := 4) (v := .int .i64 ra.area) hA rfl
  have a5 := hcell (k := 5) (v := .slice ha.ya ra.ys.length ha.yc) hA rfl
  have a6 := hcell (k := 6) (v := .slice ha.ta ra.ts.length ha.tc) hA rfl
  have b0 := hcell (k := 0) (v := .int .i64 rb.x0) hR rfl
  have b1 := hcell (k := 1) (v := .int .i64 rb.z0) hR rfl
  have b2 := hcell (k := 2) (v := .int .i64 rb.x1) hR rfl
  have b3 := hcell (k := 3) (v := .int .i64 rb.z1) hR rfl
  have b4 := hcell (k := 4) (v := .int .i64 rb.area) hR rfl
  have b5 := hcell (k := 5) (v := .slice hb.ya rb.ys.length hb.yc) hR rfl
  have b6 := hcell (k := 6) (v := .slice hb.ta rb.ts.length hb.tc) hR rfl
  clear hC hA hR
  have hWx : ∃ W, W = w3 := ⟨_, rfl⟩
  obtain ⟨W3, rfl⟩ := hWx
  go_wp2_with fail
  refine (PC.out _ hB).mono ?_
  rintro e w2 ⟨s2, rfl, hs2, hb2⟩
  obtain ⟨x2, k2, rfl, hSl⟩ := OwnR.reads drC_len hs2
  have hO2 := hO.below hb2 (Nat.le_refl _)
  have hB2 := hB.trans (hb2.mono (by have := HS.out; have := hB.size; omega))
  have HC2 := Lib.hid (And.intro (hkeep hb2 HCC.out.1) (And.intro (hkeep hb2 HCC.out.2.1) (hkeep hb2 HCC.out.2.2)))
  have hz2 := hblt HC2.out.2.2
  clear PC hs2 HCC hB hO hb2 c0 c1 c2 c3 c4 c5 c6 a0 a1 a2 a3 a4 a5 a6 b0 b1 b2 b3 b4 b5 b6
  go_upto_region 5 with (at_builtin; refine wpList_appSA (f := drC) (sz := 6) (e := 96) _ drC_len drC_one rfl _ _ 25 rfl (.agg #[.int .i64 0, .int .i64 0, .int .i64 0, .int .i64 0, .int .i64 0, .int .i64 0]) 48 Try.underlying25 info_dr rfl (by decide) (S + 1 + 1 + 1) _ _ _ hO2 rfl _ _ _ _ hSl rfl (by omega) (by omega) (by omega) ?_; intro v3 w3 hO3 hb3)
  have hB := hB2.trans (hb3.mono (by omega))
  have HCC := Lib.hid (And.intro (hkeepB hb3 HC2.out.1 (by omega)) (And.intro (hkeepB hb3 HC2.out.2.1 (by omega)) (hkeepB hb3 HC2.out.2.2 (by omega))))
  clear hO2 hSl hB2 HC2 hb3 hz2 w2
  obtain ⟨X3, hX⟩ : ∃ X, X = X2 ++ D3 := ⟨_, rfl⟩
  have hO : OwnR drC 6 96 (S + 1 + 1 + 1) w3 v3 X3.length X3 := by rw [hX, hO3.1]; exact hO3
  have lX3 : X3.length ≤ 96 := by rw [hX, hO3.1]; omega
  have HX3 := Lib.hid hX
  clear hO3 hX
  obtain ⟨hC, hA, hR⟩ := HCC.out
  obtain ⟨y2, z2, rfl, _⟩ := OwnR.reads drC_len hO
  have c0 := hcell (k := 0) (v := .int .i64 cf.clear) hC rfl
  have c1 := hcell (k := 1) (v := .int .i64 cf.climb) hC rfl
  have c2 := hcell (k := 2) (v := .int .i64 cf.height) hC rfl
  have c3 := hcell (k := 3) (v := .int .i64 cf.rise) hC rfl
  have c4 := hcell (k := 4) (v := .int .i64 cf.run) hC rfl
  have c5 := hcell (k := 5) (v := .int .i64 cf.w) hC rfl
  have c6 := hcell (k := 6) (v := .int .i64 cf.d) hC rfl
  have a0 := hcell (k := 0) (v := .int .i64 ra.x0) hA rfl
  have a1 := hcell (k := 1) (v := .int .i64 ra.z0) hA rfl
  have a2 := hcell (k := 2) (v := .int .i64 ra.x1) hA rfl
  have a3 := hcell (k := 3) (v := .int .i64 ra.z1) hA rfl
  have a4 := hcell (k := 4) (v := .int .i64 ra.area) hA rfl
  have a5 := hcell (k := 5) (v := .slice ha.ya ra.ys.length ha.yc) hA rfl
  have a6 := hcell (k := 6) (v := .slice ha.ta ra.ts.length ha.tc) hA rfl
  have b0 := hcell (k := 0) (v := .int .i64 rb.x0) hR rfl
  have b1 := hcell (k := 1) (v := .int .i64 rb.z0) hR rfl
  have b2 := hcell (k := 2) (v := .int .i64 rb.x1) hR rfl
  have b3 := hcell (k := 3) (v := .int .i64 rb.z1) hR rfl
  have b4 := hcell (k := 4) (v := .int .i64 rb.area) hR rfl
  have b5 := hcell (k := 5) (v := .slice hb.ya rb.ys.length hb.yc) hR rfl
  have b6 := hcell (k := 6) (v := .slice hb.ta rb.ts.length hb.tc) hR rfl
  clear hC hA hR
  have hWx : ∃ W, W = w3 := ⟨_, rfl⟩
  obtain ⟨W4, rfl⟩ := hWx
  go_wp2_with fail
  refine (PD.out _ hB).mono ?_
  rintro e w2 ⟨s2, rfl, hs2, hb2⟩
  obtain ⟨x2, k2, rfl, hSl⟩ := OwnR.reads drC_len hs2
  have hO2 := hO.below hb2 (Nat.le_refl _)
  have hB2 := hB.trans (hb2.mono (by have := HS.out; have := hB.size; omega))
  have HC2 := Lib.hid (And.intro (hkeep hb2 HCC.out.1) (And.intro (hkeep hb2 HCC.out.2.1) (hkeep hb2 HCC.out.2.2)))
  have hz2 := hblt HC2.out.2.2
  clear PD hs2 HCC hB hO hb2 c0 c1 c2 c3 c4 c5 c6 a0 a1 a2 a3 a4 a5 a6 b0 b1 b2 b3 b4 b5 b6
  go_wp2_with (at_builtin; refine wpList_appSA (f := drC) (sz := 6) (e := 96) _ drC_len drC_one rfl _ _ 25 rfl (.agg #[.int .i64 0, .int .i64 0, .int .i64 0, .int .i64 0, .int .i64 0, .int .i64 0]) 48 Try.underlying25 info_dr rfl (by decide) (S + 1 + 1 + 1) _ _ _ hO2 rfl _ _ _ _ hSl rfl (by omega) (by omega) (by omega) ?_; intro v3 w3 hO3 hb3; obtain ⟨y3, z3, rfl, _⟩ := OwnR.reads drC_len hO3)
  have hB3 := hB2.trans (hb3.mono (by omega))
  go_wp2
  go_ret
  refine ⟨_, rfl, ?_, hB3⟩
  have e : R = X3 ++ D4 := by rw [HX3.out, HX2.out, HX1.out, HR.out]; simp only [List.nil_append, List.append_assoc]
  rw [e]
  have h := hO3.mono (B' := S) (by omega)
  rw [h.1]
  exact h
end Go.Proofs.Ytgfmdgiepomkiaa
