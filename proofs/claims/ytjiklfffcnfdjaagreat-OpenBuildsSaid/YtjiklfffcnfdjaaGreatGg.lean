/- Walk: how a segment meets a column. -/
import Derived.Test.YtjiklfffcnfdjaaGreatGf
import Derived.Test.YtjiklfffcnfdjaaGreatGc
import Derived.Test.YtjiklfffcnfdjaaGreatSrt
namespace Go.Proofs.YtjiklfffcnfdjaaGreat
open Go.RowKit

theorem axisS_small (a b lo : Int) (ha : 0 ≤ a ∧ a ≤ 64) (hb : 0 ≤ b ∧ b ≤ 64) (hlo : -100 ≤ lo ∧ lo ≤ 100) : RtSmall 1000 (axisS a b lo).1 ∧ RtSmall 1000 (axisS a b lo).2.1 := by
  have h0 : RtSmall 1000 rt0 := by unfold RtSmall rt0; simp
  have h1 : RtSmall 1000 rt1 := by unfold RtSmall rt1; simp
  unfold axisS
  split
  · exact ⟨h0, h1⟩
  · have s1 : RtSmall 1000 (ratioS (lo - a) (b - a)) := ratioS_small (by omega) (by omega) (by omega) (by omega) (by omega)
    have s2 : RtSmall 1000 (ratioS (lo + 2 - a) (b - a)) := ratioS_small (by omega) (by omega) (by omega) (by omega) (by omega)
    have s3 : RtSmall 1000 (ins a b lo).1 ∧ RtSmall 1000 (ins a b lo).2 := by
      unfold ins
      split
      · exact ⟨s2, s1⟩
      · exact ⟨s1, s2⟩
    constructor
    · show RtSmall 1000 (if _ then _ else _)
      split
      · exact s3.1
      · exact h0
    · show RtSmall 1000 (if _ then _ else _)
      split
      · exact s3.2
      · exact h1
section
variable {w : World} {b : Nat} {t : TypeId}
theorem box6_set {u0 u1 u2 u3 u4 u5 : Value} (h : w.heap[b]? = some (.cells #[u0, u1, u2, u3, u4, u5] t (0, 0))) (v0 v1 v2 v3 v4 v5 : Value) : ((((((w.setCell ⟨b, 0, none⟩ v0).setCell ⟨b, 1, none⟩ v1).setCell ⟨b, 2, none⟩ v2).setCell ⟨b, 3, none⟩ v3).setCell ⟨b, 4, none⟩ v4).setCell ⟨b, 5, none⟩ v5).heap[b]? = some (.cells #[v0, v1, v2, v3, v4, v5] t (0, 0)) :=
  heap_setCell_same _ b 5 _ _ _ (heap_setCell_same _ b 4 _ _ _ (heap_setCell_same _ b 3 _ _ _ (heap_setCell_same _ b 2 _ _ _ (heap_setCell_same _ b 1 _ _ _ (heap_setCell_same _ b 0 _ _ _ h)))))
theorem box6_far {g : Nat} {u : Obj} (h : w.heap[g]? = some u) (hne : g ≠ b) (v0 v1 v2 v3 v4 v5 : Value) : ((((((w.setCell ⟨b, 0, none⟩ v0).setCell ⟨b, 1, none⟩ v1).setCell ⟨b, 2, none⟩ v2).setCell ⟨b, 3, none⟩ v3).setCell ⟨b, 4, none⟩ v4).setCell ⟨b, 5, none⟩ v5).heap[g]? = some u :=
  heap_set_far (heap_set_far (heap_set_far (heap_set_far (heap_set_far (heap_set_far h hne) hne) hne) hne) hne) hne
theorem box6_grown (v0 v1 v2 v3 v4 v5 : Value) : w.grownBy ((((((w.setCell ⟨b, 0, none⟩ v0).setCell ⟨b, 1, none⟩ v1).setCell ⟨b, 2, none⟩ v2).setCell ⟨b, 3, none⟩ v3).setCell ⟨b, 4, none⟩ v4).setCell ⟨b, 5, none⟩ v5) (some b) :=
  (((((grown_set w b 0 v0).trans (grown_set _ b 1 v1)).trans (grown_set _ b 2 v2)).trans (grown_set _ b 3 v3)).trans (grown_set _ b 4 v4)).trans (grown_set _ b 5 v5)
theorem box2_far {g : Nat} {u : Obj} (h : w.heap[g]? = some u) (hne : g ≠ b) (v0 v1 : Value) : ((w.setCell ⟨b, 0, none⟩ v0).setCell ⟨b, 1, none⟩ v1).heap[g]? = some u := heap_set_far (heap_set_far h hne) hne
end
theorem ret_meet {c : Cel} {k : Bool} {X : Cel × Bool} (h : X = (c, k)) : Ending.returned (.tuple #[.agg #[.int .i64 c.x, .int .i64 c.z, .int .i64 c.p.n, .int .i64 c.p.d, .int .i64 c.q.n, .int .i64 c.q.d], .bool k]) = Ending.returned (.tuple #[ceA X.1, .bool X.2]) := by rw [h]

end Go.Proofs.YtjiklfffcnfdjaaGreat

namespace Go.Proofs.YtjiklfffcnfdjaaGreat
open Go.RowKit Go.Sort

set_option maxHeartbeats 1000000 in
theorem or_any (u v t : Int) (b : Nat) (W : World) (h0 : W.cell? ⟨b, 0, none⟩ = some (.int .i64 u)) (h1 : W.cell? ⟨b, 1, none⟩ = some (.int .i64 v)) (h2 : W.cell? ⟨b, 2, none⟩ = some (.int .i64 t)) :
    Calls Tryz.prog 99 #[.slice (some ⟨b, 0, none⟩) 3 3] W fun e w' => e = .returned (.int .i64 (orS u v t)) ∧ w' = W := by
  obtain ⟨r, hr⟩ : ∃ r, Hid (r = orS u v t) := ⟨_, rfl⟩
  rw [← hr.out]
  by_cases hu : u = 0
  · have hu' : (u != 0) = false := by simpa using hu
    by_cases hv : v = 0
    · have hv' : (v != 0) = false := by simpa using hv
      by_cases ht : t = 0
      · have ht' : (t != 0) = false := by simpa using ht
        have HR : Hid (r = 0) := by show _ = _; rw [hr.out]; simp [orS, hu, hv, ht]
        clear hr
        subst hu hv ht
        go_enter Tryz.func99, Tryz.ntmps99
        go_wp2
        refine wp_loop_rounds 4 ?_
        rw [rounds_succ]
        go_wp2
        rw [rounds_succ]
        go_wp2
        rw [rounds_succ]
        go_wp2
        rw [rounds_succ]
        go_wp2
        go_ret
        exact ⟨ret_int HR.out.symm, rfl⟩
      · have ht' : (t != 0) = true := by simpa using ht
        have HR : Hid (r = t) := by show _ = _; rw [hr.out]; simp [orS, hu, hv]
        clear hr
        subst hu hv
        go_enter Tryz.func99, Tryz.ntmps99
        go_wp2
        refine wp_loop_rounds 4 ?_
        rw [rounds_succ]
        go_wp2
        rw [rounds_succ]
        go_wp2
        rw [rounds_succ]
        go_wp2
        go_ret
        exact ⟨ret_int HR.out.symm, rfl⟩
    · have hv' : (v != 0) = true := by simpa using hv
      have HR : Hid (r = v) := by show _ = _; rw [hr.out]; simp [orS, hu, hv]
      clear hr
      subst hu
      go_enter Tryz.func99, Tryz.ntmps99
      go_wp2
      refine wp_loop_rounds 4 ?_
      rw [rounds_succ]
      go_wp2
      rw [rounds_succ]
      go_wp2
      go_ret
      exact ⟨ret_int HR.out.symm, rfl⟩
  · have hu' : (u != 0) = true := by simpa using hu
    have HR : Hid (r = u) := by show _ = _; rw [hr.out]; simp [orS, hu]
    clear hr
    go_enter Tryz.func99, Tryz.ntmps99
    go_wp2
    refine wp_loop_rounds 4 ?_
    rw [rounds_succ]
    go_wp2
    go_ret
    exact ⟨ret_int HR.out.symm, rfl⟩

end Go.Proofs.YtjiklfffcnfdjaaGreat

namespace Go.Proofs.YtjiklfffcnfdjaaGreat
open Go.RowKit Go.Sort

def ceC (c : Cel) : List Value := [.int .i64 c.x, .int .i64 c.z, .int .i64 c.p.n, .int .i64 c.p.d, .int .i64 c.q.n, .int .i64 c.q.d]
abbrev SlCe := SlR ceC 6
theorem ceC_len (x : Cel) : (ceC x).length = 6 := rfl
theorem ceC_one (x : Cel) : ∀ u ∈ ceC x, u.oneCell' = true := by intro u hu; simp [ceC] at hu; rcases hu with rfl | rfl | rfl | rfl | rfl | rfl <;> rfl
/-! ### The library's sort at columns -/
def keys (xs : List Cel) (h : ∀ c ∈ xs, RtSmall 1000 c.p) : List CelK := xs.pmap Subtype.mk h
theorem keys_map (xs : List Cel) (h : ∀ c ∈ xs, RtSmall 1000 c.p) : (keys xs h).map Subtype.val = xs := by
  unfold keys
  rw [List.map_pmap]
  simp
theorem keys_flat (ks : List CelK) : ks.flatMap (fun c => ceC c.1) = (ks.map Subtype.val).flatMap ceC := by
  rw [List.flatMap_map]

/-- What the columns are: the ones met, in their order. -/
def CelAt (a b : Pt) (l : List Cel) : Prop := l.Perm (rawC a b) ∧ l.Pairwise (fun p q => ¬ cltC q p)
theorem meetC_small {a b : Pt} {x z : Int} (ha : pointOk a = true) (hb : pointOk b = true) (hx : -50 ≤ x ∧ x ≤ 50) (hz : -50 ≤ z ∧ z ≤ 50) : RtSmall 1000 (meetC a b x z).1.p ∧ RtSmall 1000 (meetC a b x z).1.q := by
  rw [pointOk_iff] at ha hb
  have sx := axisS_small a.x b.x (2 * x) (by omega) (by omega) (by omega)
  have sz := axisS_small a.z b.z (2 * z) (by omega) (by omega) (by omega)
  constructor
  · show RtSmall 1000 (if _ then _ else _)
    split
    · exact sz.1
    · exact sx.1
  · show RtSmall 1000 (if _ then _ else _)
    split
    · exact sz.2
    · exact sx.2
theorem rawC_mem {a b : Pt} {c : Cel} : c ∈ rawC a b ↔ ∃ i k : Nat, i < numS a.z b.z ∧ k < numS a.x b.x ∧ (meetC a b (lowS a.x b.x + k) (lowS a.z b.z + i)).2 = true ∧ c = (meetC a b (lowS a.x b.x + k) (lowS a.z b.z + i)).1 := by
  unfold rawC rowsC rowC
  simp only [List.mem_flatMap, List.mem_filterMap, List.mem_range]
  constructor
  · rintro ⟨i, hi, k, hk, h⟩
    split at h
    · cases h; exact ⟨i, k, hi, hk, by assumption, rfl⟩
    · cases h
  · rintro ⟨i, k, hi, hk, h, rfl⟩
    exact ⟨i, hi, k, hk, by rw [if_pos h]⟩
theorem rawC_small {a b : Pt} (ha : pointOk a = true) (hb : pointOk b = true) : ∀ c ∈ rawC a b, RtSmall 1000 c.p ∧ RtSmall 1000 c.q := by
  intro c hc
  obtain ⟨i, k, hi, hk, _, rfl⟩ := rawC_mem.1 hc
  have h1 := pointOk_iff.1 ha
  have h2 := pointOk_iff.1 hb
  have bx := lowS_bounds (a := a.x) (b := b.x) (by omega) (by omega)
  have bz := lowS_bounds (a := a.z) (b := b.z) (by omega) (by omega)
  exact meetC_small ha hb (by omega) (by omega)

end Go.Proofs.YtjiklfffcnfdjaaGreat

namespace Go.Proofs.YtjiklfffcnfdjaaGreat
open Go.RowKit

/-- What Cells answers. -/
def cellsPost (a b : Pt) (w : World) (e : Ending) (w' : World) : Prop :=
  ∃ ad n c l, e = .returned (.tuple #[.slice ad n c, .int .i64 (if pointOk a && pointOk b then 0 else 2)]) ∧ SlCe w' ad n c l ∧ n ≤ 2000 ∧ ((pointOk a && pointOk b) = true → CelAt a b l) ∧ ((pointOk a && pointOk b) = false → l = []) ∧ Below w.heap.size w w'

/-- 'append(out, x)' at a world that is itself of some blocks more: the record's block by its number. -/
theorem wpList_appRj {α : Type} {f : α → List Value} {sz : Nat} {e : TypeId} {B : Nat} {v : Value} {n : Nat} {xs : List α} {P : Program} (w : World) {ops : Array Oper} {rest : List Oper} {o : Oper} {a : Act} {Q : Exit → Act → World → Prop}
    (hf : ∀ x, (f x).length = sz) (h1 : ∀ x, ∀ u ∈ f x, u.oneCell' = true) (hgd : o.guard = none) (s x : Operand) (t : TypeId) (hop : o.op = Op.call { callee := Callee.builtin Builtin.append, args := #[s, x], argTypes := #[t, t] })
    (z : Value) (bytes : Nat) (ht : P.underlying t = some (.slice e)) (hi : (P.info? e).map (fun i => (i.zero, i.size, i.bytes)) = some (some z, sz, bytes)) (hz : z.cells.size = sz) (hsz : 0 < sz)
    (y : α) (e' : TypeId) (hown : OwnR f sz e B w v n xs) (hs : a.eval s = v) (j : Nat)
    (hx : a.eval x = .slice (some ⟨j, 0, none⟩) 1 1) (hj : w.heap.size = j)
    (h63 : n + 1 ≤ 9223372036854775807) (hbytes : (n + 1) * bytes ≤ 140737488355328) (hbase : B ≤ w.heap.size)
    (hK : ∀ v' w', OwnR f sz e B w' v' (n + 1) (xs ++ [y]) → Appd w w' v v' → wpList P ops Q rest (a.put o.dst v') w') :
    wpList P ops Q (o :: rest) a (w.alloc (.cells (f y).toArray e')) := by
  subst hj
  exact wpList_appR w hf h1 hgd s x t hop z bytes ht hi hz hsz y e' hown hs hx h63 hbytes hbase hK
theorem own_len {α : Type} {f : α → List Value} {sz : Nat} {e : TypeId} {B : Nat} {w : World} {v : Value} {n : Nat} {xs : List α} (h : OwnR f sz e B w v n xs) : OwnR f sz e B w v xs.length xs := by rw [h.1]; exact h
theorem low_tdiv {a b : Int} (ha : 0 ≤ a) (hb : 0 ≤ b) : lowS a b = (min a b + 1) / 2 - 1 := by
  unfold lowS
  rw [Int.tdiv_eq_ediv_of_nonneg (by omega)]

end Go.Proofs.YtjiklfffcnfdjaaGreat

namespace Go.Proofs.YtjiklfffcnfdjaaGreat
open Go.RowKit Go.Sort

/-! ### Ratios against a ratio -/
theorem ratio_le {n d : Int} {r : Rt} (hd : d ≠ 0) : leR (ratioS n d) r ↔ (if d < 0 then -n else n) * r.d ≤ r.n * (if d < 0 then -d else d) := by
  obtain ⟨g, hg, e1, e2⟩ := ratioS_spec (n := n) hd
  rw [e1, e2]
  unfold leR
  rw [Int.mul_assoc, Int.mul_left_comm r.n g]
  exact (Int.mul_le_mul_left hg).symm
theorem le_ratio {n d : Int} {r : Rt} (hd : d ≠ 0) : leR r (ratioS n d) ↔ r.n * (if d < 0 then -d else d) ≤ (if d < 0 then -n else n) * r.d := by
  obtain ⟨g, hg, e1, e2⟩ := ratioS_spec (n := n) hd
  rw [e1, e2]
  unfold leR
  rw [Int.mul_assoc, Int.mul_left_comm r.n g]
  exact (Int.mul_le_mul_left hg).symm
theorem ratio_dpos {n d : Int} (hd : d ≠ 0) : 0 < (ratioS n d).d := by
  obtain ⟨g, hg, _, e2⟩ := ratioS_spec (n := n) hd
  have hp : 0 < g * (ratioS n d).d := by rw [← e2]; split <;> omega
  exact Int.pos_of_mul_pos_left (by rwa [Int.mul_comm] at hp) hg
theorem max_leR {p q r : Rt} (hp : 0 < p.d) (hq : 0 < q.d) (hr : 0 < r.d) : leR (if 0 < cmpR p q then p else q) r ↔ leR p r ∧ leR q r := by
  split
  · rename_i h
    have := ltR_le (cmpR_pos.1 h)
    exact ⟨fun h1 => ⟨h1, leR_trans hq hp hr this h1⟩, fun h1 => h1.1⟩
  · rename_i h
    have h2 : leR p q := not_ltR.1 (fun h' => h (cmpR_pos.2 h'))
    exact ⟨fun h1 => ⟨leR_trans hp hq hr h2 h1, h1⟩, fun h1 => h1.2⟩
theorem leR_min {p q r : Rt} (hp : 0 < p.d) (hq : 0 < q.d) (hr : 0 < r.d) : leR r (if cmpR p q < 0 then p else q) ↔ leR r p ∧ leR r q := by
  split
  · rename_i h
    have := ltR_le (cmpR_neg.1 h)
    exact ⟨fun h1 => ⟨h1, leR_trans hr hp hq h1 this⟩, fun h1 => h1.1⟩
  · rename_i h
    have h2 : leR q p := not_ltR.1 (fun h' => h (cmpR_neg.2 h'))
    exact ⟨fun h1 => ⟨leR_trans hr hq hp h1 h2, h1⟩, fun h1 => h1.2⟩
theorem ite_dpos {c : Prop} [Decidable c] {p q : Rt} (hp : 0 < p.d) (hq : 0 < q.d) : 0 < (if c then p else q).d := by split <;> assumption
theorem rt0_le {r : Rt} : leR rt0 r ↔ 0 ≤ r.n := by unfold leR rt0; simp
theorem le_rt1 {r : Rt} : leR r rt1 ↔ r.n ≤ r.d := by unfold leR rt1; simp

/-! ### A stretch -/
def Wi (a b lo : Int) (r : Rt) : Prop := lo * r.d ≤ a * r.d + r.n * (b - a) ∧ a * r.d + r.n * (b - a) ≤ (lo + 2) * r.d
theorem ins_spec {a b lo : Int} {r : Rt} (h : a ≠ b) : Wi a b lo r ↔ leR (ins a b lo).1 r ∧ leR r (ins a b lo).2 := by
  unfold ins Wi
  split
  · rw [ratio_le (by omega), le_ratio (by omega), if_pos (by omega), if_pos (by omega), if_pos (by omega)]
    simp only [Int.sub_mul, Int.mul_sub, Int.add_mul, Int.neg_sub]
    omega
  · rw [ratio_le (by omega), le_ratio (by omega), if_neg (by omega), if_neg (by omega), if_neg (by omega)]
    simp only [Int.sub_mul, Int.mul_sub, Int.add_mul]
    omega
theorem ins_dpos {a b lo : Int} (h : a ≠ b) : 0 < (ins a b lo).1.d ∧ 0 < (ins a b lo).2.d := by
  unfold ins
  split
  · exact ⟨ratio_dpos (by omega), ratio_dpos (by omega)⟩
  · exact ⟨ratio_dpos (by omega), ratio_dpos (by omega)⟩
theorem axis_dpos (a b lo : Int) : 0 < (axisS a b lo).1.d ∧ 0 < (axisS a b lo).2.1.d := by
  unfold axisS
  split
  · exact ⟨Int.one_pos, Int.one_pos⟩
  · rename_i h
    obtain ⟨h1, h2⟩ := ins_dpos (lo := lo) h
    exact ⟨ite_dpos h1 (by decide), ite_dpos h2 (by decide)⟩
theorem axis_spec (a b lo : Int) {r : Rt} (hr : 0 < r.d) : ((axisS a b lo).2.2 = true ∧ leR (axisS a b lo).1 r ∧ leR r (axisS a b lo).2.1) ↔ 0 ≤ r.n ∧ r.n ≤ r.d ∧ Wi a b lo r := by
  by_cases h : a = b
  · subst h
    simp only [axisS, if_true, rt0_le, le_rt1, Bool.and_eq_true, decide_eq_true_eq, Wi, Int.sub_self, Int.mul_zero, Int.add_zero]
    constructor
    · rintro ⟨⟨h1, h2⟩, h3, h4⟩
      exact ⟨h3, h4, Int.mul_le_mul_of_nonneg_right h1 (by omega), Int.mul_le_mul_of_nonneg_right h2 (by omega)⟩
    · rintro ⟨h3, h4, h1, h2⟩
      exact ⟨⟨Int.le_of_mul_le_mul_right h1 hr, Int.le_of_mul_le_mul_right h2 hr⟩, h3, h4⟩
  · obtain ⟨d1, d2⟩ := ins_dpos (lo := lo) h
    have e : axisS a b lo = (if 0 < cmpR (ins a b lo).1 rt0 then (ins a b lo).1 else rt0, if cmpR (ins a b lo).2 rt1 < 0 then (ins a b lo).2 else rt1, decide (cmpR (if 0 < cmpR (ins a b lo).1 rt0 then (ins a b lo).1 else rt0) (if cmpR (ins a b lo).2 rt1 < 0 then (ins a b lo).2 else rt1) ≤ 0)) := by
      unfold axisS
      rw [if_neg h]
    rw [ins_spec h, e]
    simp only [decide_eq_true_eq, cmpR_le]
    have hf := max_leR (p := (ins a b lo).1) (q := rt0) (r := r) d1 (by decide) hr
    have hl := leR_min (p := (ins a b lo).2) (q := rt1) (r := r) d2 (by decide) hr
    have hfd : 0 < (if 0 < cmpR (ins a b lo).1 rt0 then (ins a b lo).1 else rt0).d := ite_dpos d1 (by decide)
    have hld : 0 < (if cmpR (ins a b lo).2 rt1 < 0 then (ins a b lo).2 else rt1).d := ite_dpos d2 (by decide)
    rw [rt0_le] at hf
    rw [le_rt1] at hl
    constructor
    · rintro ⟨_, h2, h3⟩
      have := hf.1 h2
      have := hl.1 h3
      exact ⟨by omega, by omega, (hf.1 h2).1, (hl.1 h3).1⟩
    · rintro ⟨h1, h2, h3, h4⟩
      have h5 := hf.2 ⟨h3, h1⟩
      have h6 := hl.2 ⟨h4, h2⟩
      exact ⟨leR_trans hfd hr hld h5 h6, h5, h6⟩

/-! ### A column -/
def At (a b : Pt) (x z : Int) (r : Rt) : Prop := 0 ≤ r.n ∧ r.n ≤ r.d ∧ Wi a.x b.x (2 * x) r ∧ Wi a.z b.z (2 * z) r
theorem meet_dpos (a b : Pt) (x z : Int) : 0 < (meetC a b x z).1.p.d ∧ 0 < (meetC a b x z).1.q.d := by
  have h1 := axis_dpos a.x b.x (2 * x)
  have h2 := axis_dpos a.z b.z (2 * z)
  exact ⟨ite_dpos h2.1 h1.1, ite_dpos h2.2 h1.2⟩
theorem meet_at {a b : Pt} {x z : Int} {r : Rt} (hr : 0 < r.d) : ((meetC a b x z).2 = true ∧ leR (meetC a b x z).1.p r ∧ leR r (meetC a b x z).1.q) ↔ At a b x z r := by
  have h1 := axis_dpos a.x b.x (2 * x)
  have h2 := axis_dpos a.z b.z (2 * z)
  have h3 := axis_spec a.x b.x (2 * x) hr
  have h4 := axis_spec a.z b.z (2 * z) hr
  have h5 := max_leR (p := (axisS a.z b.z (2 * z)).1) (q := (axisS a.x b.x (2 * x)).1) (r := r) h2.1 h1.1 hr
  have h6 := leR_min (p := (axisS a.z b.z (2 * z)).2.1) (q := (axisS a.x b.x (2 * x)).2.1) (r := r) h2.2 h1.2 hr
  obtain ⟨d1, d2⟩ := meet_dpos a b x z
  unfold meetC at d1 d2 ⊢
  simp only [Bool.and_eq_true, decide_eq_true_eq, cmpR_le] at d1 d2 ⊢
  rw [h5, h6]
  unfold At
  constructor
  · rintro ⟨⟨⟨o1, o2⟩, _⟩, ⟨p1, p2⟩, q1, q2⟩
    have := h3.1 ⟨o1, p2, q2⟩
    have := h4.1 ⟨o2, p1, q1⟩
    exact ⟨this.1, this.2.1, (h3.1 ⟨o1, p2, q2⟩).2.2, this.2.2⟩
  · rintro ⟨n1, n2, w1, w2⟩
    obtain ⟨o1, p1, q1⟩ := h3.2 ⟨n1, n2, w1⟩
    obtain ⟨o2, p2, q2⟩ := h4.2 ⟨n1, n2, w2⟩
    exact ⟨⟨⟨o1, o2⟩, leR_trans d1 hr d2 (h5.2 ⟨p2, p1⟩) (h6.2 ⟨q2, q1⟩)⟩, ⟨p2, p1⟩, q2, q1⟩
theorem meet_ord {a b : Pt} {x z : Int} (h : (meetC a b x z).2 = true) : leR (meetC a b x z).1.p (meetC a b x z).1.q := by
  unfold meetC at h ⊢
  simp only [Bool.and_eq_true, decide_eq_true_eq, cmpR_le] at h ⊢
  exact h.2
theorem meet_first {a b : Pt} {x z : Int} (h : (meetC a b x z).2 = true) : At a b x z (meetC a b x z).1.p := (meet_at (meet_dpos a b x z).1).1 ⟨h, leR_refl _, meet_ord h⟩
theorem meet_last {a b : Pt} {x z : Int} (h : (meetC a b x z).2 = true) : At a b x z (meetC a b x z).1.q := (meet_at (meet_dpos a b x z).2).1 ⟨h, meet_ord h, leR_refl _⟩

/-! ### Turned about -/
theorem wi_turn {a b lo : Int} {r : Rt} (h : Wi a b lo r) : Wi b a lo ⟨r.d - r.n, r.d⟩ := by
  unfold Wi at *
  simp only [Int.sub_mul, Int.mul_sub, Int.add_mul] at *
  simp only [Int.mul_comm] at *
  omega
theorem at_turn {a b : Pt} {x z : Int} {r : Rt} (h : At a b x z r) : At b a x z ⟨r.d - r.n, r.d⟩ := by
  obtain ⟨h1, h2, h3, h4⟩ := h
  exact ⟨by simp only; omega, by simp only; omega, wi_turn h3, wi_turn h4⟩
theorem meet_turn_of {a b : Pt} {x z : Int} (h : (meetC a b x z).2 = true) : (meetC b a x z).2 = true :=
  ((meet_at (by exact (meet_dpos a b x z).1)).2 (at_turn (meet_first h))).1
theorem meet_turn (a b : Pt) (x z : Int) : (meetC a b x z).2 = (meetC b a x z).2 := by
  rw [Bool.eq_iff_iff]
  exact ⟨meet_turn_of, meet_turn_of⟩

/-! ### Which columns -/
theorem wi_range {a b x : Int} {r : Rt} (hr : 0 < r.d) (h1 : 0 ≤ r.n) (h2 : r.n ≤ r.d) (h : Wi a b (2 * x) r) : 2 * x ≤ max a b ∧ min a b ≤ 2 * x + 2 := by
  unfold Wi at h
  have e : a * r.d + r.n * (b - a) = a * (r.d - r.n) + b * r.n := by
    simp only [Int.mul_sub]
    simp only [Int.mul_comm]
    omega
  rw [e] at h
  have m1 : a * (r.d - r.n) ≤ max a b * (r.d - r.n) := Int.mul_le_mul_of_nonneg_right (by omega) (by omega)
  have m2 : b * r.n ≤ max a b * r.n := Int.mul_le_mul_of_nonneg_right (by omega) (by omega)
  have m3 : min a b * (r.d - r.n) ≤ a * (r.d - r.n) := Int.mul_le_mul_of_nonneg_right (by omega) (by omega)
  have m4 : min a b * r.n ≤ b * r.n := Int.mul_le_mul_of_nonneg_right (by omega) (by omega)
  constructor
  · refine Int.le_of_mul_le_mul_right (a := r.d) ?_ hr
    simp only [Int.mul_sub] at *
    omega
  · refine Int.le_of_mul_le_mul_right (a := r.d) ?_ hr
    simp only [Int.mul_sub] at *
    omega
theorem wi_some (a b : Int) {r : Rt} (hr : 0 < r.d) : ∃ x, Wi a b (2 * x) r := by
  refine ⟨(a * r.d + r.n * (b - a)) / (2 * r.d), ?_⟩
  unfold Wi
  obtain ⟨P, hP⟩ : ∃ P, P = a * r.d + r.n * (b - a) := ⟨_, rfl⟩
  rw [← hP]
  have h1 := Int.mul_ediv_add_emod P (2 * r.d)
  have h2 := Int.emod_nonneg P (b := 2 * r.d) (by omega)
  have h3 := Int.emod_lt_of_pos P (b := 2 * r.d) (by omega)
  generalize P / (2 * r.d) = x at h1 ⊢
  generalize P % (2 * r.d) = y at h1 h2 h3
  have e : 2 * r.d * x = 2 * x * r.d := Int.mul_right_comm ..
  rw [e] at h1
  rw [Int.add_mul]
  omega
theorem at_some (a b : Pt) {r : Rt} (hr : 0 < r.d) (h1 : 0 ≤ r.n) (h2 : r.n ≤ r.d) : ∃ x z, At a b x z r := by
  obtain ⟨x, hx⟩ := wi_some a.x b.x hr
  obtain ⟨z, hz⟩ := wi_some a.z b.z hr
  exact ⟨x, z, h1, h2, hx, hz⟩
theorem raw_iff {a b : Pt} (ha : pointOk a = true) (hb : pointOk b = true) {c : Cel} : c ∈ rawC a b ↔ (meetC a b c.x c.z).2 = true ∧ c = (meetC a b c.x c.z).1 := by
  rw [rawC_mem]
  constructor
  · rintro ⟨i, k, _, _, h, rfl⟩
    exact ⟨h, rfl⟩
  · rintro ⟨h, e⟩
    rw [pointOk_iff] at ha hb
    have bx := lowS_bounds (a := a.x) (b := b.x) (by omega) (by omega)
    have bz := lowS_bounds (a := a.z) (b := b.z) (by omega) (by omega)
    obtain ⟨n1, n2, w1, w2⟩ := meet_first h
    have d1 := (meet_dpos a b c.x c.z).1
    have r1 := wi_range d1 n1 n2 w1
    have r2 := wi_range d1 n1 n2 w2
    refine ⟨(c.z - lowS a.z b.z).toNat, (c.x - lowS a.x b.x).toNat, by omega, by omega, ?_⟩
    have ex : lowS a.x b.x + ((c.x - lowS a.x b.x).toNat : Int) = c.x := by omega
    have ez : lowS a.z b.z + ((c.z - lowS a.z b.z).toNat : Int) = c.z := by omega
    rw [ex, ez]
    exact ⟨h, e⟩
/-- A column that holds a point of the segment is told. -/
theorem raw_at {a b : Pt} (ha : pointOk a = true) (hb : pointOk b = true) {x z : Int} {r : Rt} (hr : 0 < r.d) (h : At a b x z r) : (meetC a b x z).1 ∈ rawC a b ∧ leR (meetC a b x z).1.p r ∧ leR r (meetC a b x z).1.q := by
  obtain ⟨h1, h2, h3⟩ := (meet_at hr).2 h
  exact ⟨(raw_iff ha hb).2 ⟨h1, rfl⟩, h2, h3⟩
theorem lowS_comm (a b : Int) : lowS a b = lowS b a := by unfold lowS; rw [Int.min_comm]
theorem numS_comm (a b : Int) : numS a b = numS b a := by unfold numS; rw [Int.max_comm, lowS_comm]
def xz (c : Cel) : Int × Int := (c.x, c.z)
theorem row_xz (a b : Pt) (z : Int) (k : Nat) : (rowC a b z k).map xz = (List.range k).filterMap fun i : Nat => if (meetC a b (lowS a.x b.x + i) z).2 then some (lowS a.x b.x + (i : Int), z) else none := by
  unfold rowC
  rw [List.map_filterMap]
  congr 1
  funext i
  split <;> rfl
theorem row_turn (a b : Pt) (z : Int) (k : Nat) : (rowC a b z k).map xz = (rowC b a z k).map xz := by
  rw [row_xz, row_xz, lowS_comm b.x a.x]
  congr 1
  funext i
  rw [meet_turn a b]
theorem raw_turn (a b : Pt) : (rawC a b).map xz = (rawC b a).map xz := by
  unfold rawC rowsC
  rw [numS_comm b.z a.z, numS_comm b.x a.x, lowS_comm b.z a.z, List.map_flatMap, List.map_flatMap]
  congr 1
  funext i
  exact row_turn ..
theorem raw_nodup (a b : Pt) : (rawC a b).Pairwise (fun c d => ¬ (c.x = d.x ∧ c.z = d.z)) := by
  unfold rawC rowsC
  rw [List.pairwise_flatMap]
  constructor
  · intro i _
    unfold rowC
    rw [List.pairwise_filterMap]
    refine List.pairwise_lt_range.imp ?_
    intro k l hkl c hc d hd
    split at hc
    · cases hc
      split at hd
      · cases hd
        rintro ⟨h, _⟩
        have h' : lowS a.x b.x + (k : Int) = lowS a.x b.x + (l : Int) := h
        omega
      · cases hd
    · cases hc
  · refine List.pairwise_lt_range.imp ?_
    intro k l hkl c hc d hd
    unfold rowC at hc hd
    rw [List.mem_filterMap] at hc hd
    obtain ⟨i, _, hc⟩ := hc
    obtain ⟨j, _, hd⟩ := hd
    split at hc
    · cases hc
      split at hd
      · cases hd
        rintro ⟨_, h⟩
        have h' : lowS a.z b.z + (k : Int) = lowS a.z b.z + (l : Int) := h
        omega
      · cases hd
    · cases hc

/-! ### The columns in their order -/
section
variable {a b : Pt} {l : List Cel} (ha : pointOk a = true) (hb : pointOk b = true) (hl : CelAt a b l)
include ha hb hl
theorem cel_iff {c : Cel} : c ∈ l ↔ (meetC a b c.x c.z).2 = true ∧ c = (meetC a b c.x c.z).1 := by rw [hl.1.mem_iff, raw_iff ha hb]
theorem cel_at {c : Cel} (hc : c ∈ l) {r : Rt} (hr : 0 < r.d) : (leR c.p r ∧ leR r c.q) ↔ At a b c.x c.z r := by
  obtain ⟨h1, h2⟩ := (cel_iff ha hb hl).1 hc
  rw [← meet_at hr]
  rw [← h2]
  exact ⟨fun h => ⟨h1, h⟩, fun h => h.2⟩
theorem cel_has {r : Rt} (hr : 0 < r.d) (h1 : 0 ≤ r.n) (h2 : r.n ≤ r.d) : ∃ c ∈ l, leR c.p r ∧ leR r c.q := by
  obtain ⟨x, z, h⟩ := at_some a b hr h1 h2
  obtain ⟨h3, h4⟩ := raw_at ha hb hr h
  exact ⟨_, hl.1.mem_iff.2 h3, h4⟩
theorem cel_facts {c : Cel} (hc : c ∈ l) : 0 < c.p.d ∧ 0 < c.q.d ∧ leR c.p c.q ∧ 0 ≤ c.p.n ∧ c.q.n ≤ c.q.d ∧ RtSmall 1000 c.p ∧ RtSmall 1000 c.q ∧ -50 ≤ c.x ∧ c.x ≤ 50 ∧ -50 ≤ c.z ∧ c.z ≤ 50 := by
  obtain ⟨h1, h2⟩ := (cel_iff ha hb hl).1 hc
  have hs := rawC_small ha hb c (hl.1.mem_iff.1 hc)
  have d := meet_dpos a b c.x c.z
  have o := meet_ord h1
  have f := meet_first h1
  have g := meet_last h1
  have r1 := wi_range d.1 f.1 f.2.1 f.2.2.1
  have r2 := wi_range d.1 f.1 f.2.1 f.2.2.2
  have pa := pointOk_iff.1 ha
  have pb := pointOk_iff.1 hb
  rw [← h2] at d o f g
  exact ⟨d.1, d.2, o, f.1, g.2.1, hs.1, hs.2, by omega, by omega, by omega, by omega⟩
omit ha hb in
theorem cel_nodup : l.Pairwise (fun c d => ¬ (c.x = d.x ∧ c.z = d.z)) :=
  (hl.1.pairwise_iff (fun {x y} h => by rintro ⟨h1, h2⟩; exact h ⟨h1.symm, h2.symm⟩)).2 (raw_nodup a b)
omit ha hb in
theorem cel_rise {i j : Nat} {c d : Cel} (hi : l[i]? = some c) (hj : l[j]? = some d) (hij : j < i) : leR d.p c.p ∧ ¬ (d.x = c.x ∧ d.z = c.z) := by
  obtain ⟨h1, e1⟩ := List.getElem?_eq_some_iff.1 hi
  obtain ⟨h2, e2⟩ := List.getElem?_eq_some_iff.1 hj
  subst e1 e2
  exact ⟨(not_cltC.1 (List.pairwise_iff_getElem.1 hl.2 j i h2 h1 hij)).1, List.pairwise_iff_getElem.1 (cel_nodup hl) j i h2 h1 hij⟩
omit ha hb in
/-- Who is met for the first time ahead of one, comes ahead of it. -/
theorem cel_ahead {i : Nat} {c d : Cel} (hi : l[i]? = some c) (hd : d ∈ l) (h : ltR d.p c.p) : ∃ j, j < i ∧ l[j]? = some d := by
  obtain ⟨j, hj, e⟩ := List.mem_iff_getElem.1 hd
  have hj' : l[j]? = some d := List.getElem?_eq_some_iff.2 ⟨hj, e⟩
  refine ⟨j, ?_, hj'⟩
  rcases Nat.lt_or_ge j i with h1 | h1
  · exact h1
  · rcases Nat.lt_or_ge i j with h2 | h2
    · exact absurd h (not_ltR.2 (cel_rise hl hj' hi h2).1)
    · obtain rfl : i = j := by omega
      rw [hi] at hj'
      cases hj'
      exact absurd h (Int.lt_irrefl _)
end

/-- Between many ratios below one and that one there is another one. -/
theorem between (t : Rt) (ht : 0 < t.d) (h0 : 0 < t.n) (L : List Rt) (hL : ∀ u ∈ L, 0 < u.d ∧ ltR u t) : ∃ r : Rt, 0 < r.d ∧ 0 ≤ r.n ∧ ltR r t ∧ ∀ u ∈ L, ltR u r := by
  induction L with
  | nil => exact ⟨⟨0, 1⟩, by decide, by decide, by unfold ltR; simpa using h0, by simp⟩
  | cons u L ih =>
    obtain ⟨r, r1, r2, r3, r4⟩ := ih (fun u hu => hL u (by simp [hu]))
    obtain ⟨u1, u2⟩ := hL u (by simp)
    have med : ∀ p : Rt, 0 < p.d → ltR p t → ltR p ⟨p.n + t.n, p.d + t.d⟩ ∧ ltR ⟨p.n + t.n, p.d + t.d⟩ t := by
      intro p hp h
      unfold ltR at *
      simp only [Int.mul_add, Int.add_mul]
      have := Int.mul_comm p.n p.d
      omega
    by_cases h : ltR u r
    · exact ⟨r, r1, r2, r3, by
        intro v hv
        rcases List.mem_cons.1 hv with rfl | hv
        · exact h
        · exact r4 v hv⟩
    · have hru : leR r u := not_ltR.1 h
      obtain ⟨m1, m2⟩ := med u u1 u2
      have hn : 0 ≤ u.n := by
        unfold leR at hru
        have a1 : 0 ≤ r.n * u.d := Int.mul_nonneg r2 (by omega)
        have a2 : 0 ≤ u.n * r.d := by omega
        exact Int.nonneg_of_mul_nonneg_left a2 r1
      refine ⟨⟨u.n + t.n, u.d + t.d⟩, by simp only; omega, by simp only; omega, m2, ?_⟩
      intro v hv
      rcases List.mem_cons.1 hv with rfl | hv
      · exact m1
      · have hvd := (hL v (by simp [hv])).1
        exact ltR_leR hvd r1 (by simp only; omega) (r4 v hv) (ltR_le (leR_ltR r1 u1 (by simp only; omega) hru m1))

section
variable {a b : Pt} {l : List Cel} (ha : pointOk a = true) (hb : pointOk b = true) (hl : CelAt a b l)
include ha hb hl
/-- Each column but the first one shares a point with one ahead of it. -/
theorem cel_shares {i : Nat} {c : Cel} (hi : l[i]? = some c) (h0 : 0 < i) : ∃ j d, j < i ∧ l[j]? = some d ∧ leR c.p d.q ∧ leR d.p c.q := by
  have hc : c ∈ l := List.mem_of_getElem? hi
  obtain ⟨c1, c2, c3, c4, c5, _⟩ := cel_facts ha hb hl hc
  have key : ∀ j d, j < i → l[j]? = some d → leR c.p d.q → ∃ j d, j < i ∧ l[j]? = some d ∧ leR c.p d.q ∧ leR d.p c.q := by
    intro j d hj hd h
    have hd' : d ∈ l := List.mem_of_getElem? hd
    exact ⟨j, d, hj, hd, h, leR_trans (cel_facts ha hb hl hd').1 c1 c2 (cel_rise hl hi hd hj).1 c3⟩
  by_cases hp : c.p.n = 0
  · obtain ⟨d, hd⟩ : ∃ d, l[0]? = some d := ⟨_, List.getElem?_eq_getElem (by have := (List.getElem?_eq_some_iff.1 hi).1; omega)⟩
    have hd' : d ∈ l := List.mem_of_getElem? hd
    obtain ⟨d1, d2, d3, d4, _⟩ := cel_facts ha hb hl hd'
    refine key 0 d h0 hd ?_
    unfold leR
    rw [hp, Int.zero_mul]
    refine Int.mul_nonneg ?_ (by omega)
    unfold leR at d3
    have a1 : 0 ≤ d.p.n * d.q.d := Int.mul_nonneg d4 (by omega)
    exact Int.nonneg_of_mul_nonneg_left (b := d.p.d) (by omega) d1
  · obtain ⟨r, r1, r2, r3, r4⟩ := between c.p c1 (by omega) ((l.map Cel.q).filter fun u => decide (ltR u c.p)) (by
      intro u hu
      rw [List.mem_filter] at hu
      obtain ⟨h1, h2⟩ := hu
      obtain ⟨d, hd, rfl⟩ := List.mem_map.1 h1
      exact ⟨(cel_facts ha hb hl hd).2.1, by simpa using h2⟩)
    have hr1 : r.n ≤ r.d := by
      have h1 : leR c.p rt1 := leR_trans c1 c2 (by decide) c3 (le_rt1.2 c5)
      exact le_rt1.1 (leR_trans r1 c1 (by decide) (ltR_le r3) h1)
    obtain ⟨d, hd, hd1, hd2⟩ := cel_has ha hb hl r1 r2 hr1
    obtain ⟨d1, d2, _⟩ := cel_facts ha hb hl hd
    obtain ⟨j, hj, hjd⟩ := cel_ahead hl hi hd (leR_ltR d1 r1 c1 hd1 r3)
    refine key j d hj hjd ?_
    refine Classical.byContradiction fun hn => ?_
    have hlt := not_leR.1 hn
    have := r4 d.q (by rw [List.mem_filter]; exact ⟨List.mem_map_of_mem hd, by simpa using hlt⟩)
    exact absurd hd2 (not_leR.2 this)
omit ha hb in
/-- What is told of the segment turned about. -/
theorem cel_turn {m : List Cel} (hm : CelAt b a m) : l.length = m.length ∧ ∀ c ∈ l, ∃ d ∈ m, c.x = d.x ∧ c.z = d.z := by
  have hp : (l.map xz).Perm (m.map xz) := (hl.1.map xz).trans ((raw_turn a b) ▸ (hm.1.map xz).symm)
  refine ⟨by simpa using hp.length_eq, fun c hc => ?_⟩
  have := hp.mem_iff.1 (List.mem_map_of_mem (f := xz) hc)
  obtain ⟨d, hd, e⟩ := List.mem_map.1 this
  simp only [xz, Prod.mk.injEq] at e
  exact ⟨d, hd, e.1.symm, e.2.symm⟩
end
def holdsC (c : Cel) (p : Pt) : Prop := 2 * c.x ≤ p.x ∧ p.x ≤ 2 * c.x + 2 ∧ 2 * c.z ≤ p.z ∧ p.z ≤ 2 * c.z + 2
instance (c : Cel) (p : Pt) : Decidable (holdsC c p) := by unfold holdsC; infer_instance
theorem at_whole {a b : Pt} {x z n k u v : Int} (hn : 0 < n) (h0 : 0 ≤ k) (h1 : k ≤ n) (hu : (b.x - a.x) * k = n * u) (hv : (b.z - a.z) * k = n * v) : At a b x z ⟨k, n⟩ ↔ (2 * x ≤ a.x + u ∧ a.x + u ≤ 2 * x + 2) ∧ 2 * z ≤ a.z + v ∧ a.z + v ≤ 2 * z + 2 := by
  have one : ∀ a b lo u : Int, (b - a) * k = n * u → (Wi a b lo ⟨k, n⟩ ↔ lo ≤ a + u ∧ a + u ≤ lo + 2) := by
    intro a b lo u h
    unfold Wi
    simp only
    have e : a * n + k * (b - a) = (a + u) * n := by rw [Int.mul_comm k, h, Int.add_mul, Int.mul_comm n u]
    rw [e]
    exact ⟨fun h => ⟨Int.le_of_mul_le_mul_right h.1 hn, Int.le_of_mul_le_mul_right h.2 hn⟩, fun h => ⟨Int.mul_le_mul_of_nonneg_right h.1 (by omega), Int.mul_le_mul_of_nonneg_right h.2 (by omega)⟩⟩
  unfold At
  simp only
  rw [one _ _ _ _ hu, one _ _ _ _ hv]
  exact ⟨fun h => h.2.2, fun h => ⟨h0, h1, h⟩⟩

end Go.Proofs.YtjiklfffcnfdjaaGreat
