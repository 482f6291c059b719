/- A whole row appended to a row of one's own, as a step of a drawn region; parts of rows. -/
import Derived.Test.YtjiklfffcnfdjaaGreatAppS
import Derived.Deep.RegionLawGrows
import Derived.Test.YtjiklfffcnfdjaaGreatGk
namespace Go.Proofs.YtjiklfffcnfdjaaGreat
open Go.RowKit

section
variable {α : Type} {f : α → List Value} {sz : Nat} {e : TypeId}
theorem run_appSA {P : Program} (w : World) (t ty : TypeId) (hf : ∀ x, (f x).length = sz) (h1 : ∀ x, ∀ u ∈ f x, u.oneCell' = true)
    (z : Value) (bytes : Nat) (ht : P.underlying t = some (.slice e)) (hi : (P.info? e).map (fun i => (i.zero, i.size, i.bytes)) = some (some z, sz, bytes)) (hz : z.cells.size = sz) (hsz : 0 < sz)
    (B : Nat) (v : Value) (n : Nat) (xs : List α) (hown : OwnR f sz e B w v n xs)
    (ad : Option Addr) (m c : Nat) (ys : List α) (hy : SlR f sz w ad m c ys)
    (h63 : n + m ≤ 9223372036854775807) (hbytes : (n + m) * bytes ≤ 140737488355328) (hB : B ≤ w.heap.size) :
    ∃ v' w', (Builtin.append_ #[t, t] ty #[v, .slice ad m c]).run P w = .ok v' w' ∧ OwnR f sz e B w' v' (n + m) (xs ++ ys) ∧ Below B w w' := by
  obtain ⟨i, hi, hz0, hz1, hz2⟩ := info_parts hi
  by_cases h0 : m = 0
  · subst h0
    obtain rfl := List.eq_nil_of_length_eq_zero hy.len
    obtain ⟨av, cv, rfl, hrd⟩ := OwnR.reads hf hown
    exact ⟨_, _, run_append_zero t ty e i ht hi av ad n cv c hrd.le, by simpa using hown, Below.refl _ _⟩
  · obtain ⟨b, off, rfl, hb, hc⟩ := hy.at0 (by omega)
    obtain ⟨v', w', hrun, q1, q2, _⟩ := run_append_own (P := P) w B t ty e i z sz bytes ht hi hz0 hz1 hz2 hz hsz v n (xs.flatMap f) hown.2 ⟨b, off, none⟩ m c (ys.flatMap f) (by rw [flatMap_lenA hf, hy.len])
      (by
        intro j u hu
        rw [Addr.add_lit]
        exact SlR.flatA hf hsz hc j u hu)
      (by
        intro u hu
        obtain ⟨x', _, hxu⟩ := List.mem_flatMap.1 hu
        exact h1 x' u hxu) (by simpa [maxLen] using h63) hbytes hB
    exact ⟨v', w', hrun, ⟨by simp [hown.1, hy.len], by simpa using q1⟩, (Below.refl B w).grown q2 hB (fun j hj => hown.le j hj)⟩
/-- 'append(own, l...)' as a step of a drawn region. -/
theorem step_appSA {P : Program} (w : World) {ops : Array Oper} {o : Oper} {a : Act} {K : Act → World → Prop} {Q : Exit → Act → World → Prop} {E : Prop}
    (hf : ∀ x, (f x).length = sz) (h1 : ∀ x, ∀ u ∈ f x, u.oneCell' = true) (hgd : o.guard = none) (s x : Operand) (t : TypeId) (hop : o.op = Op.call { callee := Callee.builtin Builtin.append, args := #[s, x], argTypes := #[t, t] })
    (z : Value) (bytes : Nat) (ht : P.underlying t = some (.slice e)) (hi : (P.info? e).map (fun i => (i.zero, i.size, i.bytes)) = some (some z, sz, bytes)) (hz : z.cells.size = sz) (hsz : 0 < sz)
    (B : Nat) (v : Value) (n : Nat) (xs : List α) (hown : OwnR f sz e B w v n xs) (hs : a.eval s = v)
    (ad : Option Addr) (m c : Nat) (ys : List α) (hy : SlR f sz w ad m c ys) (hx : a.eval x = .slice ad m c)
    (h63 : n + m ≤ 9223372036854775807) (hbytes : (n + m) * bytes ≤ 140737488355328) (hB : B ≤ w.heap.size)
    (hK : ∀ v' w', OwnR f sz e B w' v' (n + m) (xs ++ ys) → Below B w w' → K (a.put o.dst v') w') :
    if Region.wanted o (yielded ops a.tmps) = true then Oper.wp P o a w K Q else E := by
  obtain ⟨v', w', hrun, r1, r2⟩ := run_appSA w t o.type hf h1 z bytes ht hi hz hsz B v n xs hown ad m c ys hy h63 hbytes hB
  have hw : Region.wanted o (yielded ops a.tmps) = true := by simp [Region.wanted, hgd]
  rw [if_pos hw]
  unfold Oper.wp
  simp [execOp, hop, resolve, invoke, builtin, hs, hx, hrun, Result.andThen]
  exact hK v' w' r1 r2
theorem SlR.takeA {w : World} {a : Option Addr} {n c : Nat} {xs : List α} (h : SlR f sz w a n c xs) {k : Nat} (hk : k ≤ n) : SlR f sz w a k c (xs.take k) := by
  refine ⟨by rw [List.length_take, h.len]; omega, Nat.le_trans hk h.le, h.max, ?_⟩
  rcases h.cell with h0 | ⟨b, off, he, hlt, hc⟩
  · exact .inl (by omega)
  · refine .inr ⟨b, off, he, hlt, fun i x hx j v hv => hc i x ?_ j v hv⟩
    rw [List.getElem?_take] at hx
    split at hx
    · exact hx
    · cases hx
theorem SlR.dropA {w : World} {b off n c : Nat} {xs : List α} (h : SlR f sz w (some ⟨b, off, none⟩) n c xs) {k : Nat} (hk : k ≤ n) : SlR f sz w (some ⟨b, off + k * sz, none⟩) (n - k) (c - k) (xs.drop k) := by
  refine ⟨by rw [List.length_drop, h.len], by have := h.le; omega, by have := h.max; omega, ?_⟩
  rcases h.cell with h0 | ⟨b', off', he, hlt, hc⟩
  · exact .inl (by omega)
  · cases he
    refine .inr ⟨b, off + k * sz, rfl, hlt, fun i x hx j v hv => ?_⟩
    rw [List.getElem?_drop] at hx
    have := hc (k + i) x hx j v hv
    rw [show off + k * sz + i * sz + j = off + (k + i) * sz + j by rw [Nat.add_mul]; omega]
    exact this
/-- A block as a row. -/
theorem SlR.block {w : World} {b : Nat} {cs : Array Value} {t : TypeId} {fr : Nat × Nat} {xs : List α} (hf : ∀ x, (f x).length = sz) (h : w.heap[b]? = some (.cells cs t fr)) (hcs : cs.toList = xs.flatMap f) (hm : xs.length ≤ 1000) : SlR f sz w (some ⟨b, 0, none⟩) xs.length xs.length xs := by
  refine ⟨rfl, Nat.le_refl _, by omega, .inr ⟨b, 0, rfl, (Array.getElem?_eq_some_iff.1 h).1, fun i x hx j v hv => ?_⟩⟩
  have h1 := flatMap_at hf xs i x j v hx hv
  rw [← hcs] at h1
  have h2 : cs[i * sz + j]? = some v := by simpa using h1
  simp [World.cell?, h, h2]
/-- An empty block is an empty row of one's own. -/
theorem OwnR.empty {w : World} {b B : Nat} (h : w.heap[b]? = some (.cells #[] e (0, 0))) (hB : B ≤ b) : OwnR f sz e B w (.slice (some ⟨b, 0, none⟩) 0 0) 0 [] :=
  ⟨rfl, by simp, .inr ⟨b, 0, #[], rfl, hB, h, Nat.le_refl _, by unfold maxLen; omega, by simp, by simp⟩⟩
end
end Go.Proofs.YtjiklfffcnfdjaaGreat

namespace Go.Proofs.YtjiklfffcnfdjaaGreat
open Go.RowKit
attribute [local go_sem] Instr.index

theorem great09_any (a : Option Addr) (n c : Nat) (w : World) : Calls Tryz.prog 4 #[.slice a n c] w fun e w' => e = .returned (.bool (decide ((40 : Int) < (n : Int)))) ∧ w' = w := by
  go_enter Tryz.func4, Tryz.ntmps4
  go_wp2
  go_ret
  exact ⟨rfl, rfl⟩
theorem wk09a : colAll ⟨0, 1, 3, 1, 1, 8, 8⟩ [⟨1, ⟨0, 3, 0⟩, ⟨2, 3, 0⟩, ⟨0, 3, 2⟩⟩] 0 0 = ([⟨3, 3, true⟩], 0) := by decide
set_option maxRecDepth 100000 in
theorem wk09b : colAll ⟨0, 1, 3, 1, 1, 8, 8⟩ [⟨1, ⟨0, 3, 0⟩, ⟨2, 3, 0⟩, ⟨0, 3, 2⟩⟩, ⟨2, ⟨0, 3, 0⟩, ⟨1, 7, 0⟩, ⟨0, 3, 1⟩⟩] 0 0 = ([⟨3, 7, false⟩], 0) := by decide
end Go.Proofs.YtjiklfffcnfdjaaGreat
