/- Walks: a row in another order; rows that are the same; appends of whole rows. -/
import Derived.Test.YtndjljefppbmcaaMrgL
import Derived.Test.YtndjljefppbmcaaAnyP
import Derived.Laws.OwnMore
namespace Go.Proofs.Ytndjljefppbmcaa
open Go.RowKit

theorem low_bits (x : Int) : 0 ≤ bits .and .i64 x 1023 ∧ bits .and .i64 x 1023 ≤ 1023 := by
  have h : bits .and .i64 x 1023 = IntKind.i64.wrap ((BitVec.ofInt 64 x &&& BitVec.ofInt 64 1023).toNat : Nat) := rfl
  have h2 : (BitVec.ofInt 64 x &&& BitVec.ofInt 64 1023).toNat ≤ 1023 := by
    rw [BitVec.toNat_and]
    exact Nat.and_le_right
  rw [h, IntKind.wrap_i64]
  omega

section
variable {α : Type} {f : α → List Value} {sz : Nat} {e : TypeId}
/-- 'append(own, l...)': a whole row behind a row of one's own. -/
theorem wpList_appS {P : Program} (w : World) {ops : Array Oper} {rest : List Oper} {o : Oper} {a : Act} {Q : Exit → Act → World → Prop}
    (hf : ∀ x, (f x).length = sz) (h1 : ∀ x, ∀ u ∈ f x, u.oneCell' = true) (hgd : o.guard = none) (s x : Operand) (t : TypeId) (hop : o.op = Op.call { callee := Callee.builtin Builtin.append, args := #[s, x], argTypes := #[t, t] })
    (z : Value) (bytes : Nat) (ht : P.underlying t = some (.slice e)) (hi : (P.info? e).map (fun i => (i.zero, i.size, i.bytes)) = some (some z, sz, bytes)) (hz : z.cells.size = sz) (hsz : 0 < sz)
    (B : Nat) (v : Value) (n : Nat) (xs : List α) (hown : OwnR f sz e B w v n xs) (hs : a.eval s = v)
    (ad : Option Addr) (m c : Nat) (ys : List α) (hy : SlR f sz w ad m c ys) (hx : a.eval x = .slice ad m c)
    (h63 : n + m ≤ 9223372036854775807) (hbytes : (n + m) * bytes ≤ 140737488355328) (hB : B ≤ w.heap.size)
    (hK : ∀ v' w', OwnR f sz e B w' v' (n + m) (xs ++ ys) → Below B w w' → wpList P ops Q rest (a.put o.dst v') w') :
    wpList P ops Q (o :: rest) a w := by
  obtain ⟨i, hi, hz0, hz1, hz2⟩ := info_parts hi
  by_cases h0 : m = 0
  · subst h0
    obtain rfl := List.eq_nil_of_length_eq_zero hy.len
    obtain ⟨av, cv, rfl, hrd⟩ := OwnR.reads hf hown
    refine wpList_append_zero hgd s x t hop e i ht hi av ad n cv c hrd.le hs hx ?_
    exact hK _ _ (by simpa using hown) (Below.refl _ _)
  · obtain ⟨b, off, rfl, hb, hc⟩ := hy.at0 (by omega)
    refine wpList_append_own w hgd s x t hop B e i z sz bytes ht hi hz0 hz1 hz2 hz hsz v n (xs.flatMap f) hs hown.2 ⟨b, off, none⟩ m c (ys.flatMap f) hx (by rw [flatMap_len hf, hy.len]) ?_ ?_ (by simpa [maxLen] using h63) hbytes hB ?_
    · intro j u hu
      rw [Addr.add_lit]
      exact SlR.flat hf hsz hc j u hu
    · intro u hu
      obtain ⟨x', _, hxu⟩ := List.mem_flatMap.1 hu
      exact h1 x' u hxu
    · intro v' w' q1 q2 _
      refine hK v' w' ⟨by simp [hown.1, hy.len], by simpa using q1⟩ ?_
      exact (Below.refl B w).grown q2 hB (fun j hj => hown.le j hj)
end

/-! ### A store of a span into a row of one's own -/
theorem flatMap_set3 : ∀ (l : List Spn) (i : Nat) (x : Spn), i < l.length → ((((l.flatMap spnC).set (i * 3) (.int .i64 x.lo)).set (i * 3 + 1) (.int .i64 x.hi)).set (i * 3 + 2) (.bool x.walk)) = (l.set i x).flatMap spnC
  | [], i, x, h => by simp at h
  | y :: l, 0, x, _ => by simp [spnC]
  | y :: l, i + 1, x, h => by
    have ih := flatMap_set3 l i x (by simpa using h)
    simp only [List.flatMap_cons, List.set_cons_succ, ← ih]
    have e : ∀ (k : Nat) (u : Value) (r : List Value), (spnC y ++ r).set (k + 3) u = spnC y ++ r.set k u := fun k u r => by simp [spnC]
    rw [show (i + 1) * 3 = i * 3 + 3 by omega, show i * 3 + 3 + 1 = i * 3 + 1 + 3 by omega, show i * 3 + 3 + 2 = i * 3 + 2 + 3 by omega, e, e, e]
theorem OwnR.set3 {e : TypeId} {B : Nat} {w : World} {g n cap : Nat} {xs : List Spn} (h : OwnR spnC 3 e B w (.slice (some ⟨g, 0, none⟩) n cap) n xs) {i : Nat} (hi : i < n) (x : Spn) :
    OwnR spnC 3 e B (((w.setCell ⟨g, i * 3, none⟩ (.int .i64 x.lo)).setCell ⟨g, i * 3 + 1, none⟩ (.int .i64 x.hi)).setCell ⟨g, i * 3 + 2, none⟩ (.bool x.walk)) (.slice (some ⟨g, 0, none⟩) n cap) n (xs.set i x) := by
  refine ⟨by simpa using h.1, ?_⟩
  rw [← flatMap_set3 xs i x (by rw [h.1]; exact hi)]
  exact (((h.2.stored _ _).1.stored _ _).1.stored _ _).1
theorem grown_set3 (w : World) (g i : Nat) (x y z : Value) : w.grownBy (((w.setCell ⟨g, i * 3, none⟩ x).setCell ⟨g, i * 3 + 1, none⟩ y).setCell ⟨g, i * 3 + 2, none⟩ z) (some g) :=
  ((grown_set w g _ x).trans (grown_set _ g _ y)).trans (grown_set _ g _ z)
theorem OwnR.cells3 {e : TypeId} {B : Nat} {w : World} {g n cap : Nat} {xs : List Spn} (h : OwnR spnC 3 e B w (.slice (some ⟨g, 0, none⟩) n cap) n xs) {i : Nat} {x : Spn} (hx : xs[i]? = some x) :
    w.cell? ⟨g, i * 3, none⟩ = some (.int .i64 x.lo) ∧ w.cell? ⟨g, i * 3 + 1, none⟩ = some (.int .i64 x.hi) ∧ w.cell? ⟨g, i * 3 + 2, none⟩ = some (.bool x.walk) := by
  have hc := fun (j : Nat) (u : Value) (hu : (spnC x)[j]? = some u) => h.2.cells (g := g) rfl (i * 3 + j) u (flatMap_at spnC_len xs i x j u hx hu)
  refine ⟨?_, ?_, ?_⟩
  · have := hc 0 _ rfl; rw [Addr.add_lit] at this; simpa using this
  · have := hc 1 _ rfl; rw [Addr.add_lit] at this; simpa using this
  · have := hc 2 _ rfl; rw [Addr.add_lit] at this; simpa using this
theorem OwnR.block {α : Type} {f : α → List Value} {sz : Nat} {e : TypeId} {B : Nat} {w : World} {v : Value} {n : Nat} {xs : List α} (h : OwnR f sz e B w v n xs) (hn : 0 < n) : ∃ g cap, v = .slice (some ⟨g, 0, none⟩) n cap ∧ B ≤ g ∧ g < w.heap.size ∧ n ≤ cap ∧ cap ≤ 9223372036854775807 := by
  rcases h.2.2 with ⟨_, h0⟩ | ⟨g, cap, cur, rfl, hB, hg, h1, h2, _⟩
  · omega
  · exact ⟨g, cap, rfl, hB, (Array.getElem?_eq_some_iff.1 hg).1, h1, by simpa [maxLen] using h2⟩

/-! ### Rows that are the same -/
set_option maxHeartbeats 1000000 in
theorem eqspn_self (a b : Option Addr) (n c d : Nat) (xs : List Spn) (w : World) (hx : SlSp w a n c xs) (hy : SlSp w b n d xs) :
    Calls Try.prog 51 #[.slice a n c, .slice b n d] w fun e w' => e = .returned (.bool true) ∧ Below w.heap.size w w' := by
  have Hl := Lib.hid hx.len
  have hmax := hx.max
  have hle := hx.le
  have Hx := Lib.hid hx; clear hx
  have Hy := Lib.hid hy; clear hy
  go_enter Try.func51, Try.ntmps51
  go_wp2
  go_loopw [13] (fun i wr => ∃ k : Nat, i = .int .i64 k ∧ k ≤ n ∧ Below w.heap.size w wr) (fun i _ => n - (intOf i).toNat)
  case atStart => exact ⟨0, rfl, Nat.zero_le _, Below.refl _ _⟩
  case round =>
    obtain ⟨k, rfl, hk, hb⟩ := hrel
    by_cases hlt : k < n
    · obtain ⟨b1, off1, rfl, hbl1, hc1⟩ := (Hx.out.below hb (Nat.le_refl _)).at0 (by omega)
      obtain ⟨b2, off2, rfl, hbl2, hc2⟩ := (Hy.out.below hb (Nat.le_refl _)).at0 (by omega)
      obtain ⟨x, hxk⟩ : ∃ x, xs[k]? = some x := ⟨_, List.getElem?_eq_getElem (by rw [Hl.out]; exact hlt)⟩
      obtain ⟨c1, c2, c3⟩ := SlSp.cells hc1 hxk
      obtain ⟨d1, d2, d3⟩ := SlSp.cells hc2 hxk
      obtain ⟨xlo, xhi, xwk⟩ := x
      clear hc1 hc2 hxk
      simp only at c1 c2 c3 d1 d2 d3
      go_wp2
      have e_c1 := fun d os => cell_regrown c1 d os
      have e_c2 := fun d os => cell_regrown c2 d os
      have e_c3 := fun d os => cell_regrown c3 d os
      have e_d1 := fun d os => cell_regrown d1 d os
      have e_d2 := fun d os => cell_regrown d2 d os
      have e_d3 := fun d os => cell_regrown d3 d os
      clear c1 c2 c3 d1 d2 d3
      refine wp_region_quiet_below (by kernel_rfl) (by kernel_rfl) ?_
      repeat (go_big_quiet_step (fail))
      refine wpQuiet_nil ?_
      rintro w2 ⟨⟨dq, osq⟩, hw''⟩
      have hb2 : Below w.heap.size w w2 := by rw [hw'']; exact hb.trans ((below_regrown wr dq osq).mono hb.size)
      clear hw'' e_c1 e_c2 e_c3 e_d1 e_d2 e_d3
      go_wp2
      go_roundw
      case rel => exact ⟨k + 1, by go_num, by omega, hb2⟩
      case measure => simp [intOf]; omega
    · obtain rfl : k = n := by omega
      go_wp2
      go_ret
      exact ⟨rfl, hb⟩
theorem same_self (a b : Option Addr) (n c d : Nat) (xs : List Spn) (w : World) (hx : SlSp w a n c xs) (hy : SlSp w b n d xs) :
    Calls Try.prog 20 #[.slice a n c, .slice b n d] w fun e w' => e = .returned (.bool true) ∧ Below w.heap.size w w' := by
  have H := Lib.hid (eqspn_self a b n c d xs w hx hy)
  clear hx hy
  go_enter Try.func20, Try.ntmps20
  go_wp2_with fail
  refine H.out.mono ?_
  rintro e w1 ⟨rfl, hb1⟩
  go_wp2
  go_ret
  exact ⟨rfl, hb1⟩

end Go.Proofs.Ytndjljefppbmcaa
