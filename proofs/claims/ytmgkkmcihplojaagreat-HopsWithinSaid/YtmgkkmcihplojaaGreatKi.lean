/- A whole row appended to a row of one's own. -/
import Derived.Test.YtmgkkmcihplojaaGreatGp
import Derived.Deep.AppendLies
import Derived.Laws.OwnMore
namespace Go.Proofs.YtmgkkmcihplojaaGreat
open Go.RowKit
theorem flatMap_lenA {α : Type} {f : α → List Value} {sz : Nat} (hf : ∀ x, (f x).length = sz) (l : List α) : (l.flatMap f).length = l.length * sz := by
  induction l with
  | nil => simp
  | cons y l ih => rw [List.flatMap_cons, List.length_append, hf, ih, List.length_cons, Nat.succ_mul, Nat.add_comm]
theorem flatMap_invA {α : Type} {f : α → List Value} {sz : Nat} (hf : ∀ x, (f x).length = sz) (hsz : 0 < sz) {l : List α} {j : Nat} {u : Value} (h : (l.flatMap f)[j]? = some u) : ∃ x, l[j / sz]? = some x ∧ (f x)[j % sz]? = some u := by
  have hlen := flatMap_lenA hf l
  have hj : j < l.length * sz := by rw [← hlen]; exact (List.getElem?_eq_some_iff.1 h).1
  have hd : j / sz < l.length := Nat.div_lt_of_lt_mul (by rw [Nat.mul_comm]; exact hj)
  have hm : j % sz < (f l[j / sz]).length := by rw [hf]; exact Nat.mod_lt _ hsz
  refine ⟨l[j / sz], List.getElem?_eq_getElem hd, ?_⟩
  have h2 := flatMap_at hf l (j / sz) _ (j % sz) _ (List.getElem?_eq_getElem hd) (List.getElem?_eq_getElem hm)
  have e : j / sz * sz + j % sz = j := by rw [Nat.mul_comm]; exact Nat.div_add_mod _ _
  rw [e, h] at h2
  rw [List.getElem?_eq_getElem hm]
  exact h2.symm

/-- The row's cells, one by one. -/
theorem SlR.flatA {α : Type} {f : α → List Value} {sz : Nat} {w : World} {b off : Nat} {xs : List α} (hf : ∀ x, (f x).length = sz) (hsz : 0 < sz) (h : ∀ i x, xs[i]? = some x → ∀ j v, (f x)[j]? = some v → w.cell? ⟨b, off + i * sz + j, none⟩ = some v) :
    ∀ j u, (xs.flatMap f)[j]? = some u → w.cell? ⟨b, off + j, none⟩ = some u := by
  intro j u hu
  obtain ⟨x, hx, hxu⟩ := flatMap_invA hf hsz hu
  have := h _ _ hx _ _ hxu
  rw [Nat.add_assoc, show j / sz * sz + j % sz = j by rw [Nat.mul_comm]; exact Nat.div_add_mod _ _] at this
  exact this

theorem run_append_zero {P : Program} {w : World} (t ty e : TypeId) (i : TypeInfo) (ht : P.underlying t = some (.slice e)) (hi : P.info? e = some i) (b a : Option Addr) (n cap c : Nat) (hn : n ≤ cap) :
    (Builtin.append_ #[t, t] ty #[.slice b n cap, .slice a 0 c]).run P w = .ok (.slice b n cap) w := by
  cases b <;> cases a <;> simp [Builtin.append_, run_underlying ht, sizeOf, typeInfo, hi, Builtin.lenOf, Builtin.firstCells, hn, storeCells, loadCells, loadCellsFrom]
theorem wpList_append_zeroA {P : Program} {w : World} {ops : Array Oper} {rest : List Oper} {o : Oper} {a : Act} {Q : Exit → Act → World → Prop} (hgd : o.guard = none) (s x : Operand) (t : TypeId)
    (ho : o.op = .call { callee := .builtin .append, args := #[s, x], argTypes := #[t, t] })
    (e : TypeId) (i : TypeInfo) (ht : P.underlying t = some (.slice e)) (hi : P.info? e = some i) (b a' : Option Addr) (n cap c : Nat) (hn : n ≤ cap)
    (hs : a.eval s = .slice b n cap) (hx : a.eval x = .slice a' 0 c)
    (h : wpList P ops Q rest (a.put o.dst (.slice b n cap)) w) : wpList P ops Q (o :: rest) a w := by
  refine wpList_plain hgd fun K hK => ?_
  have hrun := run_append_zero (P := P) (w := w) t o.type e i ht hi b a' n cap c hn
  unfold Oper.wp
  simp [execOp, ho, resolve, invoke, builtin, hs, hx, hrun, Result.andThen]
  exact hK _ _ h

section
variable {α : Type} {f : α → List Value} {sz : Nat} {e : TypeId}
/-- 'append(own, l...)': a whole row behind a row of one's own. -/
theorem wpList_appSA {P : Program} (w : World) {ops : Array Oper} {rest : List Oper} {o : Oper} {a : Act} {Q : Exit → Act → World → Prop}
    (hf : ∀ x, (f x).length = sz) (h1 : ∀ x, ∀ u ∈ f x, u.oneCell' = true) (hgd : o.guard = none) (s x : Operand) (t : TypeId) (hop : o.op = Op.call { callee := Callee.builtin Builtin.append, args := #[s, x], argTypes := #[t, t] })
    (z : Value) (bytes : Nat) (ht : P.underlying t = some (.slice e)) (hi : (P.info? e).map (fun i => (i.zero, i.size, i.bytes)) = some (some z, sz, bytes)) (hz : z.cells.size = sz) (hsz : 0 < sz)
    (B : Nat) (v : Value) (n : Nat) (xs : List α) (hown : OwnR f sz e B w v n xs) (hs : a.eval s = v)
    (ad : Option Addr) (m c : Nat) (ys : List α) (hy : SlR f sz w ad m c ys) (hx : a.eval x = .slice ad m c)
    (h63 : n + m ≤ 9223372036854775807) (hbytes : (n + m) * bytes ≤ 140737488355328) (hB : B ≤ w.heap.size)
    (hK : ∀ v' w', OwnR f sz e B w' v' (n + m) (xs ++ ys) → Below B w w' → wpList P ops Q rest (a.put o.dst v') w') :
    wpList P ops Q (o :: rest) a w := by
  obtain ⟨i, hi, hz0, hz1, hz2⟩ := info_parts hi
  by_cases h0 : m = 0
  · subst h0
    obtain rfl := List.eq_nil_of_length_eq_zero hy.len
    obtain ⟨av, cv, rfl, hrd⟩ := OwnR.reads hf hown
    refine wpList_append_zeroA hgd s x t hop e i ht hi av ad n cv c hrd.le hs hx ?_
    exact hK _ _ (by simpa using hown) (Below.refl _ _)
  · obtain ⟨b, off, rfl, hb, hc⟩ := hy.at0 (by omega)
    refine wpList_append_own w hgd s x t hop B e i z sz bytes ht hi hz0 hz1 hz2 hz hsz v n (xs.flatMap f) hs hown.2 ⟨b, off, none⟩ m c (ys.flatMap f) hx (by rw [flatMap_lenA hf, hy.len]) ?_ ?_ (by simpa [maxLen] using h63) hbytes hB ?_
    · intro j u hu
      rw [Addr.add_lit]
      exact SlR.flatA hf hsz hc j u hu
    · intro u hu
      obtain ⟨x', _, hxu⟩ := List.mem_flatMap.1 hu
      exact h1 x' u hxu
    · intro v' w' q1 q2 _
      refine hK v' w' ⟨by simp [hown.1, hy.len], by simpa using q1⟩ ?_
      exact (Below.refl B w).grown q2 hB (fun j hj => hown.le j hj)
end

end Go.Proofs.YtmgkkmcihplojaaGreat
