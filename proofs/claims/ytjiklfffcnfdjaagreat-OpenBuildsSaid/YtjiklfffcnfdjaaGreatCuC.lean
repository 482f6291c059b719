/- Walk: the reference's corners over a column. -/
import Derived.Test.YtjiklfffcnfdjaaGreatCuB
import Derived.Deep.DeepCutAuto
import Derived.Deep.CutRange
import Derived.Test.YtjiklfffcnfdjaaGreatHn
namespace Go.Proofs.YtjiklfffcnfdjaaGreat
open Go.RowKit
attribute [local go_sem] Instr.index

/-! ### The corners put so far -/
def cputG (t : T3) (pts : List Sp) : List Cr := (pts.map (liftT t)).foldl putL []
theorem putG_snoc (t : T3) (pts : List Sp) (p : Sp) : cputG t (pts ++ [p]) = putL (cputG t pts) (liftT t p) := by
  unfold cputG
  rw [List.map_append, List.foldl_append]
  rfl
theorem putF_sub (c : Cr) : ∀ (l : List Cr) (d : Bool) (e : Cr), e ∈ putF c d l → e = c ∨ e ∈ l
  | [], d, e, h => by
    unfold putF at h
    split at h
    · cases h
    · rw [List.mem_singleton] at h; exact .inl h
  | y :: l, d, e, h => by
    have h1 := putF_sub c l true e
    have h2 := putF_sub c l d e
    unfold putF at h
    rw [List.mem_cons]
    split at h
    · rw [List.mem_cons] at h
      rcases h with h | h
      · exact .inr (.inl h)
      · rcases h1 h with h | h
        · exact .inl h
        · exact .inr (.inr h)
    · split at h
      · rw [List.mem_cons, List.mem_cons] at h
        rcases h with h | h | h
        · exact .inl h
        · exact .inr (.inl h)
        · rcases h1 h with h | h
          · exact .inl h
          · exact .inr (.inr h)
      · rw [List.mem_cons] at h
        rcases h with h | h
        · exact .inr (.inl h)
        · rcases h2 h with h | h
          · exact .inl h
          · exact .inr (.inr h)
theorem fold_sub : ∀ (items acc : List Cr) (e : Cr), e ∈ items.foldl putL acc → e ∈ acc ∨ e ∈ items
  | [], acc, e, h => .inl h
  | c :: items, acc, e, h => by
    rcases fold_sub items (putL acc c) e h with h | h
    · rcases putF_sub c acc false e h with h | h
      · exact .inr (by rw [h]; simp)
      · exact .inl h
    · exact .inr (List.mem_cons_of_mem _ h)
theorem fold_len : ∀ (items acc : List Cr), (items.foldl putL acc).length ≤ acc.length + items.length
  | [], acc => by simp
  | c :: items, acc => by
    have h1 := fold_len items (putL acc c)
    have h2 := putF_len c acc false
    rw [List.foldl_cons, List.length_cons]
    unfold putL at *
    omega
/-- The row of the corners put so far. -/
def OutR (t : T3) (B : Nat) (w : World) (v : Value) (pts : List Sp) : Prop := OwnR crC 4 105 B w v (cputG t pts).length (cputG t pts) ∧ (∀ p ∈ pts, SpSmall p ∧ 0 < p.d) ∧ pts.length ≤ 100
theorem OutR.below {t : T3} {B B2 : Nat} {w w' : World} {v : Value} {pts : List Sp} (h : OutR t B w v pts) (hb : Below B2 w w') (hB : w.heap.size ≤ B2) : OutR t B w' v pts := ⟨h.1.below hb hB, h.2⟩
theorem OutR.alloc {t : T3} {B : Nat} {w : World} {v : Value} {pts : List Sp} (h : OutR t B w v pts) (o : Obj) : OutR t B (w.alloc o) v pts := ⟨h.1.alloc o, h.2⟩
theorem put_out {t : T3} {B : Nat} {w : World} {v : Value} {pts : List Sp} (h : OutR t B w v pts) (hs : 0 < t.s ∧ t.s ≤ 2048) (p : Sp) (hp : SpSmall p ∧ 0 < p.d) (hl : pts.length < 100) (hB : B ≤ w.heap.size) :
    Calls Tryz.prog 75 #[v, crA (liftT t p)] w fun e w' => ∃ v', e = .returned v' ∧ OutR t B w' v' (pts ++ [p]) ∧ Below w.heap.size w w' := by
  obtain ⟨h1, h2, h3⟩ := h
  obtain ⟨ad, cp, rfl, hrd⟩ := OwnR.reads crC_len h1
  have hlen : (cputG t pts).length ≤ 100 := by
    have := fold_len (pts.map (liftT t)) []
    unfold cputG
    simp at this
    omega
  have hsm : ∀ y ∈ cputG t pts, CrSmall y := by
    intro y hy
    rcases fold_sub _ _ y hy with h | h
    · cases h
    · obtain ⟨q, hq, rfl⟩ := List.mem_map.1 h
      exact lift_small hs (h2 q hq).1 (h2 q hq).2
  refine (put_any ad _ cp (cputG t pts) (liftT t p) w hrd hsm (lift_small hs hp.1 hp.2) (by omega)).mono ?_
  rintro e w' ⟨v', rfl, ho, hb⟩
  refine ⟨v', rfl, ⟨?_, ?_, by simp; omega⟩, hb⟩
  · rw [putG_snoc]
    exact ho.mono hB
  · intro q hq
    rw [List.mem_append, List.mem_singleton] at hq
    rcases hq with hq | rfl
    · exact h2 q hq
    · exact hp
def colP (a b c : V3) (x z : Int) (j : Nat) : List Sp := ((colS x z).take j).filter (insideR a b c)
theorem col_step {a b c : V3} {x z : Int} {j : Nat} {p : Sp} (h : (colS x z)[j]? = some p) : colP a b c x z (j + 1) = if insideR a b c p then colP a b c x z j ++ [p] else colP a b c x z j := by
  unfold colP
  rw [List.take_add_one, h]
  show List.filter _ (_ ++ [p]) = _
  rw [List.filter_append]
  by_cases hi : insideR a b c p = true
  · rw [if_pos hi]; simp [hi]
  · rw [if_neg hi]; simp [hi]
def sideV (a b c : V3) : Nat → V3 × V3
  | 0 => (a, b)
  | 1 => (b, c)
  | _ => (c, a)
def kP (x z : Int) (u v : V3) (k : Nat) : List Sp := (List.range k).flatMap fun j : Nat => ptX z u v (x + j) ++ ptZ x u v (z + j)
theorem kP_succ (x z : Int) (u v : V3) (k : Nat) : kP x z u v (k + 1) = kP x z u v k ++ (ptX z u v (x + k) ++ ptZ x u v (z + k)) := by
  unfold kP
  rw [List.range_succ, List.flatMap_append]
  simp
theorem kP_two (x z : Int) (u v : V3) : ptVer x z u ++ kP x z u v 2 = ptSide x z u v := by
  rw [kP_succ, kP_succ]
  unfold ptSide kP
  simp
def sidesP (a b c : V3) (x z : Int) (k : Nat) : List Sp := (List.range k).flatMap fun j => ptSide x z (sideV a b c j).1 (sideV a b c j).2
theorem sidesP_succ (a b c : V3) (x z : Int) (k : Nat) : sidesP a b c x z (k + 1) = sidesP a b c x z k ++ ptSide x z (sideV a b c k).1 (sideV a b c k).2 := by
  unfold sidesP
  rw [List.range_succ, List.flatMap_append]
  simp
theorem sidesP_three (a b c : V3) (x z : Int) : colP a b c x z 4 ++ sidesP a b c x z 3 = ptsR a b c x z := by
  rw [sidesP_succ, sidesP_succ, sidesP_succ]
  unfold ptsR ptCol colP sidesP
  simp [sideV, colS]
theorem cross_bound {a b n : Int} (ha : 0 ≤ a ∧ a ≤ 32) (hb : 0 ≤ b ∧ b ≤ 32) (hn : -1 ≤ n ∧ n ≤ 33) : (0 ≤ (crossR a b n).1 ∧ (crossR a b n).1 ≤ 33) ∧ 0 ≤ (crossR a b n).2.1 ∧ (crossR a b n).2.1 ≤ 32 := by
  unfold crossR
  split
  · simp
  · split
    · simp only; omega
    · simp only; omega
theorem ptX_len (z : Int) (u v : V3) (n : Int) : (ptX z u v n).length ≤ 1 := by unfold ptX; split <;> simp
theorem ptZ_len (x : Int) (u v : V3) (n : Int) : (ptZ x u v n).length ≤ 1 := by unfold ptZ; split <;> simp
theorem ptVer_len (x z : Int) (u : V3) : (ptVer x z u).length ≤ 1 := by unfold ptVer; split <;> simp
theorem kP_len (x z : Int) (u v : V3) : ∀ k, (kP x z u v k).length ≤ 2 * k
  | 0 => by simp [kP]
  | k + 1 => by
    have := kP_len x z u v k
    have h1 := ptX_len z u v (x + k)
    have h2 := ptZ_len x u v (z + k)
    rw [kP_succ, List.length_append, List.length_append]
    omega
theorem ptSide_len (x z : Int) (u v : V3) : (ptSide x z u v).length ≤ 5 := by
  rw [← kP_two, List.length_append]
  have h1 := ptVer_len x z u
  have h2 := kP_len x z u v 2
  omega
theorem sidesP_len (a b c : V3) (x z : Int) : ∀ k, (sidesP a b c x z k).length ≤ 5 * k
  | 0 => by simp [sidesP]
  | k + 1 => by
    have := sidesP_len a b c x z k
    have h1 := ptSide_len x z (sideV a b c k).1 (sideV a b c k).2
    rw [sidesP_succ, List.length_append]
    omega
theorem colP_len (a b c : V3) (x z : Int) (j : Nat) : (colP a b c x z j).length ≤ 4 := by
  unfold colP
  have h1 := List.length_filter_le (insideR a b c) ((colS x z).take j)
  have h2 : ((colS x z).take j).length ≤ 4 := by rw [List.length_take]; exact Nat.min_le_right _ _
  omega

theorem pts_good {a b c : V3} {t : T3} (ho : openT a b c = (t, true)) {x z : Int} (hin : inC x z) (hok : vOk t.a = true ∧ vOk t.b = true ∧ vOk t.c = true) {p : Sp} (hp : p ∈ ptsR a b c x z) : SpSmall p ∧ 0 < p.d := by
  obtain ⟨f1, f2⟩ := open_flat ho
  have := (pts_mem ho x z p).1 hp
  exact ⟨spots_small hok.1 hok.2.1 hok.2.2 hin p this, (spots_in f1 f2 this).1⟩
theorem side_in_pts {a b c : V3} {x z : Int} {k : Nat} (hk : k < 3) {p : Sp} (h : p ∈ ptSide x z (sideV a b c k).1 (sideV a b c k).2) : p ∈ ptsR a b c x z := by
  rw [← sidesP_three, List.mem_append]
  right
  unfold sidesP
  rw [List.mem_flatMap]
  exact ⟨k, List.mem_range.2 hk, h⟩
theorem kP_in {x z : Int} {u v : V3} {k : Nat} (hk : k < 2) {p : Sp} (h : p ∈ ptX z u v (x + k) ∨ p ∈ ptZ x u v (z + k)) : p ∈ ptSide x z u v := by
  rw [← kP_two, List.mem_append]
  right
  unfold kP
  rw [List.mem_flatMap]
  refine ⟨k, List.mem_range.2 hk, ?_⟩
  rw [List.mem_append]
  exact h
theorem ver_in {x z : Int} {u v : V3} {p : Sp} (h : p ∈ ptVer x z u) : p ∈ ptSide x z u v := by
  unfold ptSide
  rw [List.mem_append]
  exact .inl h
set_option maxHeartbeats 1000000 in
theorem crefmay_any (i : Int) (a b c : V3) (w : World) : Calls Tryz.prog 73 #[tiA i a b c] w fun e w' => e = .returned (.bool (openT a b c).2) ∧ Below w.heap.size w w' := by
  have MT := Lib.hid (fun W => maytri32_any i a b c W)
  generalize (openT a b c).2 = r at MT ⊢
  have hB : Below w.heap.size w (w.alloc (triO i a b c)) := (Below.refl _ _).alloc (Nat.le_refl _) _
  obtain ⟨ax, ay, az⟩ := a
  obtain ⟨bx, by_, bz⟩ := b
  obtain ⟨cx, cy, cz⟩ := c
  go_enter Tryz.func73, Tryz.ntmps73
  go_wp2_with fail
  refine (MT.out _).mono ?_
  rintro e w1 ⟨rfl, hb1⟩
  have hB1 := hB.trans (hb1.mono hB.size)
  go_wp2
  go_ret
  exact ⟨rfl, hB1⟩

set_option maxRecDepth 100000 in
set_option maxHeartbeats 4000000 in
theorem refcorners_no (i : Int) (a b c : V3) (x z : Int) (w : World) (ho : (openT a b c).2 = false) :
    Calls Tryz.prog 57 #[tiA i a b c, .int .i64 x, .int .i64 z] w fun e w' => e = .returned (.tuple #[.slice none 0 0, .int .i64 40]) ∧ Below w.heap.size w w' := by
  have MT := Lib.hid (fun W => crefmay_any i a b c W)
  rw [ho] at MT
  have hB : Below w.heap.size w (w.alloc (triO i a b c)) := (Below.refl _ _).alloc (Nat.le_refl _) _
  clear ho
  obtain ⟨ax, ay, az⟩ := a
  obtain ⟨bx, by_, bz⟩ := b
  obtain ⟨cx, cy, cz⟩ := c
  go_enter Tryz.func57, Tryz.ntmps57
  go_wp2_with fail
  refine (MT.out _).mono ?_
  rintro e w1 ⟨rfl, hb1⟩
  have hB1 := hB.trans (hb1.mono hB.size)
  clear hB hb1
  go_wp2
  go_ret2
  exact ⟨rfl, hB1⟩
set_option maxRecDepth 100000 in
set_option maxHeartbeats 4000000 in
theorem refcorners_out (i : Int) (a b c : V3) (x z : Int) (w : World) (ho : (openT a b c).2 = true) (hx : ¬ inC x z) :
    Calls Tryz.prog 57 #[tiA i a b c, .int .i64 x, .int .i64 z] w fun e w' => e = .returned (.tuple #[.slice none 0 0, .int .i64 2]) ∧ Below w.heap.size w w' := by
  have MT := Lib.hid (fun W => crefmay_any i a b c W)
  rw [ho] at MT
  have hB : Below w.heap.size w (w.alloc (triO i a b c)) := (Below.refl _ _).alloc (Nat.le_refl _) _
  have hcase : x < -1 ∨ (¬ x < -1 ∧ 32 < x) ∨ (¬ x < -1 ∧ ¬ 32 < x ∧ z < -1) ∨ (¬ x < -1 ∧ ¬ 32 < x ∧ ¬ z < -1 ∧ 32 < z) := by unfold inC at hx; omega
  clear ho hx
  obtain ⟨ax, ay, az⟩ := a
  obtain ⟨bx, by_, bz⟩ := b
  obtain ⟨cx, cy, cz⟩ := c
  go_enter Tryz.func57, Tryz.ntmps57
  go_wp2_with fail
  refine (MT.out _).mono ?_
  rintro e w1 ⟨rfl, hb1⟩
  have hB1 := hB.trans (hb1.mono hB.size)
  clear hB hb1
  rcases hcase with h | ⟨h0, h⟩ | ⟨h0, h1, h⟩ | ⟨h0, h1, h2, h⟩
  all_goals
    go_wp2
    go_ret2
    exact ⟨rfl, hB1⟩
end Go.Proofs.YtjiklfffcnfdjaaGreat

namespace Go.Proofs.YtjiklfffcnfdjaaGreat
open Go.RowKit
attribute [local go_sem] Instr.index

theorem OutR.of_eq {t : T3} {B : Nat} {w : World} {v : Value} {pts pts2 : List Sp} (h : OutR t B w v pts) (e : pts = pts2) : OutR t B w v pts2 := e ▸ h
theorem two_new (W : World) (a b : Obj) : ((W.alloc a).alloc b).heap[W.heap.size]? = some a ∧ ((W.alloc a).alloc b).heap[W.heap.size + 1]? = some b := by
  have h1 := halloc (World.alloc_heap_new W a) b
  have h2 := World.alloc_heap_new (W.alloc a) b
  simp only [World.size_alloc] at h2
  exact ⟨h1, h2⟩

set_option maxRecDepth 100000 in
set_option maxHeartbeats 40000000 in
theorem refcorners_good (i : Int) (a b c : V3) (x z : Int) (w : World) (t : T3) (ho : openT a b c = (t, true)) (hin : inC x z) :
    Calls Tryz.prog 57 #[tiA i a b c, .int .i64 x, .int .i64 z] w (cornPost t x z w) := by
  have MT := Lib.hid (fun W => crefmay_any i a b c W)
  rw [ho] at MT
  obtain ⟨va, vb, vc⟩ := open_vok ho
  have hto := open_ok ho
  have HGood := Lib.hid (fun p (hp : p ∈ ptsR a b c x z) => pts_good ho hin ⟨hto.1, hto.2.1, hto.2.2.1⟩ hp)
  have hs : 0 < t.s ∧ t.s ≤ 2048 := hto.2.2.2
  have HFin : Hid (CornAt t x z (cputG t (ptsR a b c x z))) := refcorn_at ho x z
  have hB : Below w.heap.size w (w.alloc (triO i a b c)) := (Below.refl _ _).alloc (Nat.le_refl _) _
  have hI := World.alloc_heap_new w (triO i a b c)
  have hin' := hin
  unfold inC at hin'
  obtain ⟨u1, u2, u3, u4⟩ := hin'
  have u1' : ¬ x < -1 := by omega
  have u2' : ¬ 32 < x := by omega
  have u3' : ¬ z < -1 := by omega
  have u4' : ¬ 32 < z := by omega
  clear hto
  obtain ⟨ax, ay, az⟩ := a
  obtain ⟨bx, by_, bz⟩ := b
  obtain ⟨cx, cy, cz⟩ := c
  go_enter Tryz.func57, Tryz.ntmps57
  go_wp2_with fail
  refine (MT.out _).mono ?_
  rintro e w1 ⟨rfl, hb1⟩
  have hB1 := hB.trans (hb1.mono hB.size)
  have hI1 := hkeep hb1 hI
  clear hB hb1 hI MT
  go_wp2_with fail
  clear u1' u2' u3' u4'
  obtain ⟨T, hT⟩ : ∃ T, T = w.heap.size := ⟨_, rfl⟩
  rw [← hT] at hI1 ⊢
  have HT := Lib.hid hT
  clear hT
  go_loopw [8, 9] (fun s8 s9 wr => ∃ dz : Nat, s9 = .int .i64 dz ∧ dz ≤ 2 ∧ OutR t w1.heap.size wr s8 (colP ⟨ax, ay, az⟩ ⟨bx, by_, bz⟩ ⟨cx, cy, cz⟩ x z (2 * dz)) ∧ Below w1.heap.size w1 wr) (fun _ s9 _ => 2 - (intOf s9).toNat)
  case atStart => exact ⟨0, rfl, by omega, ⟨OwnR.nil _ _ _ _ _, by simp [colP], by simp [colP]⟩, Below.refl _ _⟩
  case round =>
    obtain ⟨dz, rfl, hdz, hO, hb⟩ := hrel
    by_cases hz2 : dz = 2
    · have hdz2 : ¬ (dz : Int) ≤ 1 := by omega
      have hO := OutR.of_eq hO (pts2 := colP ⟨ax, ay, az⟩ ⟨bx, by_, bz⟩ ⟨cx, cy, cz⟩ x z 4) (by rw [hz2])
      clear hz2
      have HL1 : Hid ((colP ⟨ax, ay, az⟩ ⟨bx, by_, bz⟩ ⟨cx, cy, cz⟩ x z 4).length ≤ 4) := colP_len ⟨ax, ay, az⟩ ⟨bx, by_, bz⟩ ⟨cx, cy, cz⟩ x z 4
      have hO3 := OutR.of_eq hO (pts2 := colP ⟨ax, ay, az⟩ ⟨bx, by_, bz⟩ ⟨cx, cy, cz⟩ x z 4 ++ sidesP ⟨ax, ay, az⟩ ⟨bx, by_, bz⟩ ⟨cx, cy, cz⟩ x z 0) (by simp [sidesP])
      clear hO
      have VA := Lib.hid va
      have VB := Lib.hid vb
      have VC := Lib.hid vc
      have HB := Lib.hid hb
      go_wp2_with fail
      go_loopw [8, 11] (fun s8 s11 wr => ∃ k : Nat, s11 = .int .i64 k ∧ k ≤ 3 ∧ OutR t w1.heap.size wr s8 (colP ⟨ax, ay, az⟩ ⟨bx, by_, bz⟩ ⟨cx, cy, cz⟩ x z 4 ++ sidesP ⟨ax, ay, az⟩ ⟨bx, by_, bz⟩ ⟨cx, cy, cz⟩ x z k) ∧ Below w1.heap.size w1 wr) (fun _ s11 _ => 3 - (intOf s11).toNat)
      case atStart => exact ⟨0, rfl, by omega, hO3, HB.out⟩
      case round =>
        clear hO3 hb
        obtain ⟨k, rfl, hk, hO, hb⟩ := hrel
        by_cases hk3 : k = 3
        · subst hk3
          have hO4 := OutR.of_eq hO (sidesP_three ⟨ax, ay, az⟩ ⟨bx, by_, bz⟩ ⟨cx, cy, cz⟩ x z)
          obtain ⟨ad, cp, hv8, hrd⟩ := OwnR.reads crC_len hO4.1
          subst hv8
          have Hrd := Lib.hid hrd
          have hB9 := hB1.trans (hb.mono hB1.size)
          clear hO hO4 hrd HB
          go_wp2
          go_ret2
          exact ⟨ad, cp, _, rfl, HFin.out, Hrd.out, hB9⟩
        · have hkI : (k : Int) < 3 := by omega
          have HSG : Hid (∀ p, p ∈ ptSide x z (sideV ⟨ax, ay, az⟩ ⟨bx, by_, bz⟩ ⟨cx, cy, cz⟩ k).1 (sideV ⟨ax, ay, az⟩ ⟨bx, by_, bz⟩ ⟨cx, cy, cz⟩ k).2 → SpSmall p ∧ 0 < p.d) := fun p hp => HGood.out p (side_in_pts (by omega) hp)
          have hlS : (colP ⟨ax, ay, az⟩ ⟨bx, by_, bz⟩ ⟨cx, cy, cz⟩ x z 4 ++ sidesP ⟨ax, ay, az⟩ ⟨bx, by_, bz⟩ ⟨cx, cy, cz⟩ x z k).length ≤ 14 := by have q1 := HL1.out; have q2 := sidesP_len ⟨ax, ay, az⟩ ⟨bx, by_, bz⟩ ⟨cx, cy, cz⟩ x z k; rw [List.length_append]; omega
          have HL1 := Lib.hid hlS
          have HSS := Lib.hid (sidesP_succ ⟨ax, ay, az⟩ ⟨bx, by_, bz⟩ ⟨cx, cy, cz⟩ x z k)
          have hIk := hkeepB hb hI1 (hblt hI1)
          have c0 := hcell (k := 0) (v := .int .i64 i) hIk rfl
          have c1 := hcell (k := 1) (v := .int .i64 ax) hIk rfl
          have c2 := hcell (k := 2) (v := .int .i64 ay) hIk rfl
          have c3 := hcell (k := 3) (v := .int .i64 az) hIk rfl
          have c4 := hcell (k := 4) (v := .int .i64 bx) hIk rfl
          have c5 := hcell (k := 5) (v := .int .i64 by_) hIk rfl
          have c6 := hcell (k := 6) (v := .int .i64 bz) hIk rfl
          have c7 := hcell (k := 7) (v := .int .i64 cx) hIk rfl
          have c8 := hcell (k := 8) (v := .int .i64 cy) hIk rfl
          have c9 := hcell (k := 9) (v := .int .i64 cz) hIk rfl
          have hC : ∃ (k2 : Nat) (s0 s1 s2 s3 s4 s5 : Int), (k2 : Int) < 3 ∧ ((k : Int) + 1).tmod 3 = (k2 : Int) ∧ wr.cell? ⟨T, 1 + k * 3, none⟩ = some (.int .i64 s0) ∧ wr.cell? ⟨T, 1 + k * 3 + 1, none⟩ = some (.int .i64 s1) ∧ wr.cell? ⟨T, 1 + k * 3 + 2, none⟩ = some (.int .i64 s2) ∧ wr.cell? ⟨T, 1 + k2 * 3, none⟩ = some (.int .i64 s3) ∧ wr.cell? ⟨T, 1 + k2 * 3 + 1, none⟩ = some (.int .i64 s4) ∧ wr.cell? ⟨T, 1 + k2 * 3 + 2, none⟩ = some (.int .i64 s5) ∧ (0 ≤ s0 ∧ s0 ≤ 32) ∧ (0 ≤ s2 ∧ s2 ≤ 32) ∧ (0 ≤ s3 ∧ s3 ≤ 32) ∧ (0 ≤ s5 ∧ s5 ≤ 32) ∧ sideV ⟨ax, ay, az⟩ ⟨bx, by_, bz⟩ ⟨cx, cy, cz⟩ k = (⟨s0, s1, s2⟩, ⟨s3, s4, s5⟩) := by
            have hk' : k = 0 ∨ k = 1 ∨ k = 2 := by omega
            have va' := VA.out
            have vb' := VB.out
            have vc' := VC.out
            rw [vOk_iff] at va' vb' vc'
            simp only at va' vb' vc'
            rcases hk' with rfl | rfl | rfl
            · exact ⟨1, ax, ay, az, bx, by_, bz, by decide, by decide, c1, c2, c3, c4, c5, c6, by omega, by omega, by omega, by omega, rfl⟩
            · exact ⟨2, bx, by_, bz, cx, cy, cz, by decide, by decide, c4, c5, c6, c7, c8, c9, by omega, by omega, by omega, by omega, rfl⟩
            · exact ⟨0, cx, cy, cz, ax, ay, az, by decide, by decide, c7, c8, c9, c1, c2, c3, by omega, by omega, by omega, by omega, rfl⟩
          clear c0 c1 c2 c3 c4 c5 c6 c7 c8 c9 hIk
          obtain ⟨k2, s0, s1, s2, s3, s4, s5, hk2, hm, d0, d1, d2, d3, d4, d5, b0, b2, b3, b5, hsv⟩ := hC
          rw [hsv] at HSG HSS
          simp only at HSG HSS
          clear hsv
          have n1 := World.new_ne wr _ d0
          have hw1 : IntKind.i64.wrap ((k : Int) + 1) = (k : Int) + 1 := by rw [IntKind.wrap_i64]; omega
          have hk0 : (0 : Int) ≤ (k : Int) := by omega
          have hk1 : (0 : Int) ≤ (k2 : Int) := by omega
          have HO := Lib.hid hO
          clear hO
          go_upto_region 17 with fail
          obtain ⟨WR, rfl⟩ : ∃ WR : World, WR = wr := ⟨_, rfl⟩
          go_cut [12, 13] from 68 to 77 (fun s12 s13 wx => ∃ pu pv : Nat, s12 = .pointer (some ⟨pu, 0, none⟩) ∧ s13 = .pointer (some ⟨pv, 0, none⟩) ∧ wx.heap[pu]? = some (vxO ⟨s0, s1, s2⟩) ∧ wx.heap[pv]? = some (vxO ⟨s3, s4, s5⟩) ∧ Below WR.heap.size WR wx)
          case first =>
            clear HO HB hb HSG HSS HL1
            go_wp2_with fail
            go_region_held3 (fun WW => WW.cell? ⟨T, 1 + k * 3, none⟩ = some (.int .i64 s0) ∧ WW.cell? ⟨T, 1 + k * 3 + 1, none⟩ = some (.int .i64 s1) ∧ WW.cell? ⟨T, 1 + k * 3 + 2, none⟩ = some (.int .i64 s2) ∧ WW.cell? ⟨T, 1 + k2 * 3, none⟩ = some (.int .i64 s3) ∧ WW.cell? ⟨T, 1 + k2 * 3 + 1, none⟩ = some (.int .i64 s4) ∧ WW.cell? ⟨T, 1 + k2 * 3 + 2, none⟩ = some (.int .i64 s5)) (first | go_keep | fail) (fail)
            all_goals
              rename_i hH
              clear hH
              go_wp2
              go_meet
              refine ⟨_, _, rfl, rfl, ?_, ?_, ?_⟩
              · first | exact (two_new _ _ _).1 | exact (two_new _ _ _).2
              · first | exact (two_new _ _ _).1 | exact (two_new _ _ _).2
              · exact (((Below.refl _ _).alloc (Nat.le_refl _) _).alloc (by simp) _).drew
          case rest =>
          obtain ⟨pu, pv, rfl, rfl, hpu, hpv, hbw⟩ := hcut
          have hb3 := hb.trans (hbw.mono hb.size)
          have hO := HO.out.below hbw (Nat.le_refl _)
          clear HO hb hbw d0 d1 d2 d3 d4 d5 n1 hm hk2 hk0 hk1
          have hwx : IntKind.i64.wrap (x + 1) = x + 1 := by rw [IntKind.wrap_i64]; omega
          have hwz : IntKind.i64.wrap (z + 1) = z + 1 := by rw [IntKind.wrap_i64]; omega
          have W1 := Lib.hid (fun W => within_any s0 1 x (x + 1) W (by omega) (by omega) (by omega))
          have W2 := Lib.hid (fun W => within_any s2 1 z (z + 1) W (by omega) (by omega) (by omega))
          have hpx : ptVer x z ⟨s0, s1, s2⟩ = if withinR s0 1 x (x + 1) && withinR s2 1 z (z + 1) then [⟨s0, s2, 1⟩] else [] := rfl
          have hgd : ∀ p, p ∈ ptVer x z ⟨s0, s1, s2⟩ → SpSmall p ∧ 0 < p.d := fun p hp => HSG.out p (ver_in hp)
          generalize withinR s0 1 x (x + 1) = r1 at W1 hpx
          generalize withinR s2 1 z (z + 1) = r2 at W2 hpx
          have Hpx := Lib.hid hpx
          have Hgd := Lib.hid hgd
          clear hpx hgd
          have m0 := hcell (k := 0) (v := .int .i64 s0) hpu rfl
          have m1 := hcell (k := 1) (v := .int .i64 s1) hpu rfl
          have m2 := hcell (k := 2) (v := .int .i64 s2) hpu rfl
          have m3 := hcell (k := 0) (v := .int .i64 s3) hpv rfl
          have m4 := hcell (k := 1) (v := .int .i64 s4) hpv rfl
          have m5 := hcell (k := 2) (v := .int .i64 s5) hpv rfl
          go_upto_region 18 with fail
          obtain ⟨w7, rfl⟩ : ∃ W : World, W = wc := ⟨_, rfl⟩
          go_cut [91] from 78 to 90 (fun sl wx => sl = .bool (r1 && r2) ∧ wx = w7)
          case first =>
            clear Hpx Hgd HSG HSS HL1 hO
            go_wp2_with fail
            refine (W1.out _).mono ?_
            rintro e w8 ⟨rfl, rfl⟩
            cases r1 with
            | false =>
              go_wp2
              go_meet
              exact ⟨rfl, rfl⟩
            | true =>
              go_wp2_with fail
              refine (W2.out _).mono ?_
              rintro e w9 ⟨rfl, rfl⟩
              go_wp2
              go_meet
              exact ⟨rfl, rfl⟩
          case rest =>
          obtain ⟨rfl, hwc⟩ := hcut
          subst hwc
          clear W1 W2 hwx hwz
          go_upto_if 91 with fail
          go_cut [8] from 91 to 100 (fun s8 wx => OutR t w1.heap.size wx s8 ((colP ⟨ax, ay, az⟩ ⟨bx, by_, bz⟩ ⟨cx, cy, cz⟩ x z 4 ++ sidesP ⟨ax, ay, az⟩ ⟨bx, by_, bz⟩ ⟨cx, cy, cz⟩ x z k) ++ ptVer x z ⟨s0, s1, s2⟩) ∧ Below w1.heap.size w1 wx ∧ wx.heap[pu]? = some (vxO ⟨s0, s1, s2⟩) ∧ wx.heap[pv]? = some (vxO ⟨s3, s4, s5⟩))
          case first =>
            cases hkk : (r1 && r2) with
            | false =>
              have hOv := OutR.of_eq hO (pts2 := (colP ⟨ax, ay, az⟩ ⟨bx, by_, bz⟩ ⟨cx, cy, cz⟩ x z 4 ++ sidesP ⟨ax, ay, az⟩ ⟨bx, by_, bz⟩ ⟨cx, cy, cz⟩ x z k) ++ ptVer x z ⟨s0, s1, s2⟩) (by rw [Hpx.out, hkk]; simp)
              clear hkk Hpx Hgd hO m0 m1 m2 m3 m4 m5
              go_wp2
              go_meet
              exact ⟨hOv, hb3, hpu, hpv⟩
            | true =>
              have hpg : SpSmall ⟨s0, s2, 1⟩ ∧ 0 < ((⟨s0, s2, 1⟩ : Sp)).d := Hgd.out _ (by rw [Hpx.out, hkk]; simp)
              have hlenP : (colP ⟨ax, ay, az⟩ ⟨bx, by_, bz⟩ ⟨cx, cy, cz⟩ x z 4 ++ sidesP ⟨ax, ay, az⟩ ⟨bx, by_, bz⟩ ⟨cx, cy, cz⟩ x z k).length < 100 := by have q1 := HL1.out; omega
              have CR := Lib.hid (fun W => refcorner_any ⟨ax, ay, az⟩ ⟨bx, by_, bz⟩ ⟨cx, cy, cz⟩ t ⟨s0, s2, 1⟩ W ho hpg.1 hpg.2)
              have hIk := hkeepB hb3 hI1 (hblt hI1)
              have k0 := hcell (k := 0) (v := .int .i64 i) hIk rfl
              have k1 := hcell (k := 1) (v := .int .i64 ax) hIk rfl
              have k2 := hcell (k := 2) (v := .int .i64 ay) hIk rfl
              have k3 := hcell (k := 3) (v := .int .i64 az) hIk rfl
              have k4 := hcell (k := 4) (v := .int .i64 bx) hIk rfl
              have k5 := hcell (k := 5) (v := .int .i64 by_) hIk rfl
              have k6 := hcell (k := 6) (v := .int .i64 bz) hIk rfl
              have k7 := hcell (k := 7) (v := .int .i64 cx) hIk rfl
              have k8 := hcell (k := 8) (v := .int .i64 cy) hIk rfl
              have k9 := hcell (k := 9) (v := .int .i64 cz) hIk rfl
              go_wp2_with fail
              refine (CR.out _).mono ?_
              rintro e wA ⟨rfl, hbA⟩
              have hOA := hO.below hbA (Nat.le_refl _)
              have hBA := hb3.trans (hbA.mono hb3.size)
              have PT := Lib.hid (put_out hOA hs ⟨s0, s2, 1⟩ hpg hlenP hBA.size)
              clear hIk k0 k1 k2 k3 k4 k5 k6 k7 k8 k9 CR
              go_wp2_with fail
              refine PT.out.mono ?_
              rintro e wB ⟨vB, rfl, hOB, hbB⟩
              have hBB := hBA.trans (hbB.mono hBA.size)
              clear PT hOA hBA
              have hu9 := hkeep hbB (hkeep hbA hpu)
              have hv9 := hkeep hbB (hkeep hbA hpv)
              have hOv := OutR.of_eq hOB (pts2 := (colP ⟨ax, ay, az⟩ ⟨bx, by_, bz⟩ ⟨cx, cy, cz⟩ x z 4 ++ sidesP ⟨ax, ay, az⟩ ⟨bx, by_, bz⟩ ⟨cx, cy, cz⟩ x z k) ++ ptVer x z ⟨s0, s1, s2⟩) (by rw [Hpx.out, hkk]; simp)
              clear hkk Hpx Hgd hO hb3 hpg hlenP hbA hbB hOB hpu hpv m0 m1 m2 m3 m4 m5
              go_wp2
              go_meet
              exact ⟨hOv, hBB, hu9, hv9⟩
          case rest =>
          clear Hpx Hgd hO hb3 hpu hpv m0 m1 m2 m3 m4 m5
          obtain ⟨hOv, hbv, huv, hvv⟩ := hcut
          obtain ⟨w10, rfl⟩ : ∃ W : World, W = wc := ⟨_, rfl⟩
          have hOL := OutR.of_eq hOv (pts2 := ((colP ⟨ax, ay, az⟩ ⟨bx, by_, bz⟩ ⟨cx, cy, cz⟩ x z 4 ++ sidesP ⟨ax, ay, az⟩ ⟨bx, by_, bz⟩ ⟨cx, cy, cz⟩ x z k) ++ ptVer x z ⟨s0, s1, s2⟩) ++ kP x z ⟨s0, s1, s2⟩ ⟨s3, s4, s5⟩ 0) (by simp [kP])
          have HBL := Lib.hid hbv
          go_wp2_with fail
          go_loopw [8, 14] (fun s8 s14 wr => ∃ j : Nat, s14 = .int .i64 j ∧ j ≤ 2 ∧ OutR t w1.heap.size wr s8 (((colP ⟨ax, ay, az⟩ ⟨bx, by_, bz⟩ ⟨cx, cy, cz⟩ x z 4 ++ sidesP ⟨ax, ay, az⟩ ⟨bx, by_, bz⟩ ⟨cx, cy, cz⟩ x z k) ++ ptVer x z ⟨s0, s1, s2⟩) ++ kP x z ⟨s0, s1, s2⟩ ⟨s3, s4, s5⟩ j) ∧ Below w1.heap.size w1 wr ∧ wr.heap[pu]? = some (vxO ⟨s0, s1, s2⟩) ∧ wr.heap[pv]? = some (vxO ⟨s3, s4, s5⟩)) (fun _ s14 _ => 2 - (intOf s14).toNat)
          case atStart => exact ⟨0, rfl, by omega, hOL, HBL.out, huv, hvv⟩
          case round =>
            clear hOL HBL hOv hbv huv hvv
            obtain ⟨j, rfl, hj, hOj, hbj, huj, hvj⟩ := hrel
            by_cases hj2 : j = 2
            · subst hj2
              have hOe := OutR.of_eq hOj (pts2 := colP ⟨ax, ay, az⟩ ⟨bx, by_, bz⟩ ⟨cx, cy, cz⟩ x z 4 ++ sidesP ⟨ax, ay, az⟩ ⟨bx, by_, bz⟩ ⟨cx, cy, cz⟩ x z (k + 1)) (by rw [HSS.out, ← kP_two]; simp)
              clear hOj huj hvj
              go_wp2
              go_roundw
              case rel => first | exact ⟨k + 1, by go_num, by omega, hOe, hbj⟩ | ((repeat apply Exists.intro); exact ⟨⟨k + 1, by go_num, by omega, hOe, hbj⟩, rfl⟩)
              case measure => simp [intOf]; omega
            · have hjI : (j : Int) ≤ 1 := by omega
              have HJ := Lib.hid (kP_succ x z ⟨s0, s1, s2⟩ ⟨s3, s4, s5⟩ j)
              have XC := Lib.hid (fun W => crossing_any s0 s3 (x + (j : Int)) W (by omega) (by omega) (by omega))
              have hbd := cross_bound (a := s0) (b := s3) (n := x + (j : Int)) (by omega) (by omega) (by omega)
              have hpx : ptX z ⟨s0, s1, s2⟩ ⟨s3, s4, s5⟩ (x + j) = if (crossR s0 s3 (x + (j : Int))).2.2 && withinR (s2 * (crossR s0 s3 (x + (j : Int))).2.1 + (s5 - s2) * (crossR s0 s3 (x + (j : Int))).1) (crossR s0 s3 (x + (j : Int))).2.1 z (z + 1) then [⟨(x + j) * (crossR s0 s3 (x + (j : Int))).2.1, s2 * (crossR s0 s3 (x + (j : Int))).2.1 + (s5 - s2) * (crossR s0 s3 (x + (j : Int))).1, (crossR s0 s3 (x + (j : Int))).2.1⟩] else [] := rfl
              have hgd : ∀ p, p ∈ ptX z ⟨s0, s1, s2⟩ ⟨s3, s4, s5⟩ (x + j) → SpSmall p ∧ 0 < p.d := fun p hp => HSG.out p (kP_in (by omega) (.inl hp))
              obtain ⟨PX, hPX⟩ : ∃ PX, PX = ptX z ⟨s0, s1, s2⟩ ⟨s3, s4, s5⟩ (x + j) := ⟨_, rfl⟩
              rw [← hPX] at hpx hgd
              have HPX := Lib.hid hPX
              clear hPX
              generalize crossR s0 s3 (x + (j : Int)) = cr at XC hbd hpx
              obtain ⟨s, q, ok⟩ := cr
              simp only at XC hbd hpx
              obtain ⟨⟨bd1, bd2⟩, bd3, bd4⟩ := hbd
              have e1 := mulB (x := s2) (y := q) (K := 40) (L := 40) (by omega) (by omega)
              have e2 := mulB (x := s5 - s2) (y := s) (K := 40) (L := 40) (by omega) (by omega)
              have e3 := mulB (x := x + (j : Int)) (y := q) (K := 40) (L := 40) (by omega) (by omega)
              have hwn : IntKind.i64.wrap (x + (j : Int)) = x + j := by rw [IntKind.wrap_i64]; omega
              have hwt : IntKind.i64.wrap (z + 1) = z + 1 := by rw [IntKind.wrap_i64]; omega
              have WI := Lib.hid (fun W => within_any (s2 * q + (s5 - s2) * s) q z (z + 1) W (by omega) (by omega) (by omega))
              have m0 := hcell (k := 0) (v := .int .i64 s0) huj rfl
              have m1 := hcell (k := 1) (v := .int .i64 s1) huj rfl
              have m2 := hcell (k := 2) (v := .int .i64 s2) huj rfl
              have m3 := hcell (k := 0) (v := .int .i64 s3) hvj rfl
              have m4 := hcell (k := 1) (v := .int .i64 s4) hvj rfl
              have m5 := hcell (k := 2) (v := .int .i64 s5) hvj rfl
              go_wp2_with fail
              refine (XC.out _).mono ?_
              rintro e w6 ⟨rfl, rfl⟩
              clear XC
              go_upto_region 25 with fail
              generalize hwr : withinR (s2 * q + (s5 - s2) * s) q z (z + 1) = wi at WI hpx
              clear hwr
              have Hpx := Lib.hid hpx
              have Hgd := Lib.hid hgd
              clear hpx hgd
              obtain ⟨w7, rfl⟩ : ∃ W : World, W = w6 := ⟨_, rfl⟩
              go_cut [137] from 129 to 136 (fun sl wx => sl = .bool (ok && wi) ∧ wx = w7)
              case first =>
                clear Hpx Hgd HPX
                cases ok with
                | false =>
                  go_wp2
                  go_meet
                  exact ⟨rfl, rfl⟩
                | true =>
                  go_wp2_with fail
                  refine (WI.out _).mono ?_
                  rintro e w8 ⟨rfl, rfl⟩
                  go_wp2
                  go_meet
                  exact ⟨rfl, rfl⟩
              case rest =>
              obtain ⟨rfl, hwc⟩ := hcut
              subst hwc
              clear WI
              go_upto_if 137 with fail
              go_cut [8] from 137 to 149 (fun s8 wx => OutR t w1.heap.size wx s8 ((((colP ⟨ax, ay, az⟩ ⟨bx, by_, bz⟩ ⟨cx, cy, cz⟩ x z 4 ++ sidesP ⟨ax, ay, az⟩ ⟨bx, by_, bz⟩ ⟨cx, cy, cz⟩ x z k) ++ ptVer x z ⟨s0, s1, s2⟩) ++ kP x z ⟨s0, s1, s2⟩ ⟨s3, s4, s5⟩ j) ++ ptX z ⟨s0, s1, s2⟩ ⟨s3, s4, s5⟩ (x + j)) ∧ Below w1.heap.size w1 wx ∧ wx.heap[pu]? = some (vxO ⟨s0, s1, s2⟩) ∧ wx.heap[pv]? = some (vxO ⟨s3, s4, s5⟩))
              case first =>
                cases hkk : (ok && wi) with
                | false =>
                  have HE : Hid (ptX z ⟨s0, s1, s2⟩ ⟨s3, s4, s5⟩ (x + j) = []) := by show _ = _; rw [← HPX.out, Hpx.out, hkk]; rfl
                  have hOe := OutR.of_eq hOj (pts2 := (((colP ⟨ax, ay, az⟩ ⟨bx, by_, bz⟩ ⟨cx, cy, cz⟩ x z 4 ++ sidesP ⟨ax, ay, az⟩ ⟨bx, by_, bz⟩ ⟨cx, cy, cz⟩ x z k) ++ ptVer x z ⟨s0, s1, s2⟩) ++ kP x z ⟨s0, s1, s2⟩ ⟨s3, s4, s5⟩ j) ++ ptX z ⟨s0, s1, s2⟩ ⟨s3, s4, s5⟩ (x + j)) (by rw [HE.out]; simp)
                  clear hkk Hpx Hgd HPX e1 e2 e3 hwn hwt m0 m1 m2 m3 m4 m5 bd1 bd2 bd3 bd4
                  go_wp2
                  go_meet
                  exact ⟨hOe, hbj, huj, hvj⟩
                | true =>
                  have HE : Hid (ptX z ⟨s0, s1, s2⟩ ⟨s3, s4, s5⟩ (x + j) = [⟨(x + j) * q, s2 * q + (s5 - s2) * s, q⟩]) := by show _ = _; rw [← HPX.out, Hpx.out, hkk]; rfl
                  have hpg : SpSmall ⟨(x + j) * q, s2 * q + (s5 - s2) * s, q⟩ ∧ 0 < (⟨(x + j) * q, s2 * q + (s5 - s2) * s, q⟩ : Sp).d := Hgd.out _ (by rw [Hpx.out, hkk]; simp)
                  clear hkk Hpx Hgd HPX
                  have hlenP : (((colP ⟨ax, ay, az⟩ ⟨bx, by_, bz⟩ ⟨cx, cy, cz⟩ x z 4 ++ sidesP ⟨ax, ay, az⟩ ⟨bx, by_, bz⟩ ⟨cx, cy, cz⟩ x z k) ++ ptVer x z ⟨s0, s1, s2⟩) ++ kP x z ⟨s0, s1, s2⟩ ⟨s3, s4, s5⟩ j).length < 100 := by have q1 := HL1.out; have q2 := ptVer_len x z (⟨s0, s1, s2⟩ : V3); have q3 := kP_len x z ⟨s0, s1, s2⟩ ⟨s3, s4, s5⟩ j; have q4 := ptX_len z ⟨s0, s1, s2⟩ ⟨s3, s4, s5⟩ (x + j); simp only [List.length_append] at q1 ⊢; omega
                  have CR := Lib.hid (fun W => refcorner_any ⟨ax, ay, az⟩ ⟨bx, by_, bz⟩ ⟨cx, cy, cz⟩ t ⟨(x + j) * q, s2 * q + (s5 - s2) * s, q⟩ W ho hpg.1 hpg.2)
                  have hIk := hkeepB hbj hI1 (hblt hI1)
                  have k0 := hcell (k := 0) (v := .int .i64 i) hIk rfl
                  have k1 := hcell (k := 1) (v := .int .i64 ax) hIk rfl
                  have k2 := hcell (k := 2) (v := .int .i64 ay) hIk rfl
                  have k3 := hcell (k := 3) (v := .int .i64 az) hIk rfl
                  have k4 := hcell (k := 4) (v := .int .i64 bx) hIk rfl
                  have k5 := hcell (k := 5) (v := .int .i64 by_) hIk rfl
                  have k6 := hcell (k := 6) (v := .int .i64 bz) hIk rfl
                  have k7 := hcell (k := 7) (v := .int .i64 cx) hIk rfl
                  have k8 := hcell (k := 8) (v := .int .i64 cy) hIk rfl
                  have k9 := hcell (k := 9) (v := .int .i64 cz) hIk rfl
                  go_wp2_with fail
                  refine (CR.out _).mono ?_
                  rintro e wA ⟨rfl, hbA⟩
                  have hOA := hOj.below hbA (Nat.le_refl _)
                  have hBA := hbj.trans (hbA.mono hbj.size)
                  have PT := Lib.hid (put_out hOA hs ⟨(x + j) * q, s2 * q + (s5 - s2) * s, q⟩ hpg hlenP hBA.size)
                  clear hIk k0 k1 k2 k3 k4 k5 k6 k7 k8 k9 CR
                  go_wp2_with fail
                  refine PT.out.mono ?_
                  rintro e wB ⟨vB, rfl, hOB, hbB⟩
                  have hBB := hBA.trans (hbB.mono hBA.size)
                  clear PT hOA hBA
                  have hu9 := hkeep hbB (hkeep hbA huj)
                  have hv9 := hkeep hbB (hkeep hbA hvj)
                  have hOe := OutR.of_eq hOB (pts2 := (((colP ⟨ax, ay, az⟩ ⟨bx, by_, bz⟩ ⟨cx, cy, cz⟩ x z 4 ++ sidesP ⟨ax, ay, az⟩ ⟨bx, by_, bz⟩ ⟨cx, cy, cz⟩ x z k) ++ ptVer x z ⟨s0, s1, s2⟩) ++ kP x z ⟨s0, s1, s2⟩ ⟨s3, s4, s5⟩ j) ++ ptX z ⟨s0, s1, s2⟩ ⟨s3, s4, s5⟩ (x + j)) (by rw [HE.out])
                  clear hpg hlenP e1 e2 e3 hwn hwt m0 m1 m2 m3 m4 m5 bd1 bd2 bd3 bd4 hbA hbB
                  go_wp2
                  go_meet
                  exact ⟨hOe, hBB, hu9, hv9⟩
              case rest =>
              clear Hpx Hgd HPX e1 e2 e3 hwn hwt m0 m1 m2 m3 m4 m5 bd1 bd2 bd3 bd4 hOj hbj huj hvj
              obtain ⟨hOx, hbx, hux, hvx⟩ := hcut
              obtain ⟨w11, rfl⟩ : ∃ W : World, W = wc := ⟨_, rfl⟩
              have XC := Lib.hid (fun W => crossing_any s2 s5 (z + (j : Int)) W (by omega) (by omega) (by omega))
              have hbd := cross_bound (a := s2) (b := s5) (n := z + (j : Int)) (by omega) (by omega) (by omega)
              have hpx : ptZ x ⟨s0, s1, s2⟩ ⟨s3, s4, s5⟩ (z + j) = if (crossR s2 s5 (z + (j : Int))).2.2 && withinR (s0 * (crossR s2 s5 (z + (j : Int))).2.1 + (s3 - s0) * (crossR s2 s5 (z + (j : Int))).1) (crossR s2 s5 (z + (j : Int))).2.1 x (x + 1) then [⟨s0 * (crossR s2 s5 (z + (j : Int))).2.1 + (s3 - s0) * (crossR s2 s5 (z + (j : Int))).1, (z + j) * (crossR s2 s5 (z + (j : Int))).2.1, (crossR s2 s5 (z + (j : Int))).2.1⟩] else [] := rfl
              have hgd : ∀ p, p ∈ ptZ x ⟨s0, s1, s2⟩ ⟨s3, s4, s5⟩ (z + j) → SpSmall p ∧ 0 < p.d := fun p hp => HSG.out p (kP_in (by omega) (.inr hp))
              obtain ⟨PX, hPX⟩ : ∃ PX, PX = ptZ x ⟨s0, s1, s2⟩ ⟨s3, s4, s5⟩ (z + j) := ⟨_, rfl⟩
              rw [← hPX] at hpx hgd
              have HPX := Lib.hid hPX
              clear hPX
              generalize crossR s2 s5 (z + (j : Int)) = cr at XC hbd hpx
              obtain ⟨s, q, ok⟩ := cr
              simp only at XC hbd hpx
              obtain ⟨⟨bd1, bd2⟩, bd3, bd4⟩ := hbd
              have e1 := mulB (x := s0) (y := q) (K := 40) (L := 40) (by omega) (by omega)
              have e2 := mulB (x := s3 - s0) (y := s) (K := 40) (L := 40) (by omega) (by omega)
              have e3 := mulB (x := z + (j : Int)) (y := q) (K := 40) (L := 40) (by omega) (by omega)
              have hwn : IntKind.i64.wrap (z + (j : Int)) = z + j := by rw [IntKind.wrap_i64]; omega
              have hwt : IntKind.i64.wrap (x + 1) = x + 1 := by rw [IntKind.wrap_i64]; omega
              have WI := Lib.hid (fun W => within_any (s0 * q + (s3 - s0) * s) q x (x + 1) W (by omega) (by omega) (by omega))
              have m0 := hcell (k := 0) (v := .int .i64 s0) hux rfl
              have m1 := hcell (k := 1) (v := .int .i64 s1) hux rfl
              have m2 := hcell (k := 2) (v := .int .i64 s2) hux rfl
              have m3 := hcell (k := 0) (v := .int .i64 s3) hvx rfl
              have m4 := hcell (k := 1) (v := .int .i64 s4) hvx rfl
              have m5 := hcell (k := 2) (v := .int .i64 s5) hvx rfl
              go_wp2_with fail
              refine (XC.out _).mono ?_
              rintro e w6 ⟨rfl, rfl⟩
              clear XC
              go_upto_region 29 with fail
              generalize hwr : withinR (s0 * q + (s3 - s0) * s) q x (x + 1) = wi at WI hpx
              clear hwr
              have Hpx := Lib.hid hpx
              have Hgd := Lib.hid hgd
              clear hpx hgd
              obtain ⟨w7, rfl⟩ : ∃ W : World, W = w6 := ⟨_, rfl⟩
              go_cut [182] from 174 to 181 (fun sl wx => sl = .bool (ok && wi) ∧ wx = w7)
              case first =>
                clear Hpx Hgd HPX
                cases ok with
                | false =>
                  go_wp2
                  go_meet
                  exact ⟨rfl, rfl⟩
                | true =>
                  go_wp2_with fail
                  refine (WI.out _).mono ?_
                  rintro e w8 ⟨rfl, rfl⟩
                  go_wp2
                  go_meet
                  exact ⟨rfl, rfl⟩
              case rest =>
              obtain ⟨rfl, hwc⟩ := hcut
              subst hwc
              clear WI
              cases hkk : (ok && wi) with
              | false =>
                have HE : Hid (ptZ x ⟨s0, s1, s2⟩ ⟨s3, s4, s5⟩ (z + j) = []) := by show _ = _; rw [← HPX.out, Hpx.out, hkk]; rfl
                clear hkk Hpx Hgd HPX e1 e2 e3 hwn hwt m0 m1 m2 m3 m4 m5 bd1 bd2 bd3 bd4
                have hOe := OutR.of_eq hOx (pts2 := ((colP ⟨ax, ay, az⟩ ⟨bx, by_, bz⟩ ⟨cx, cy, cz⟩ x z 4 ++ sidesP ⟨ax, ay, az⟩ ⟨bx, by_, bz⟩ ⟨cx, cy, cz⟩ x z k) ++ ptVer x z ⟨s0, s1, s2⟩) ++ kP x z ⟨s0, s1, s2⟩ ⟨s3, s4, s5⟩ (j + 1)) (by rw [HJ.out, HE.out]; simp)
                go_wp2
                go_roundw
                case rel => first | exact ⟨j + 1, by go_num, by omega, hOe, hbx, hux, hvx⟩ | ((repeat apply Exists.intro); exact ⟨⟨j + 1, by go_num, by omega, hOe, hbx, hux, hvx⟩, rfl⟩)
                case measure => simp [intOf]; omega
              | true =>
                have HE : Hid (ptZ x ⟨s0, s1, s2⟩ ⟨s3, s4, s5⟩ (z + j) = [⟨s0 * q + (s3 - s0) * s, (z + j) * q, q⟩]) := by show _ = _; rw [← HPX.out, Hpx.out, hkk]; rfl
                have hpg : SpSmall ⟨s0 * q + (s3 - s0) * s, (z + j) * q, q⟩ ∧ 0 < (⟨s0 * q + (s3 - s0) * s, (z + j) * q, q⟩ : Sp).d := Hgd.out _ (by rw [Hpx.out, hkk]; simp)
                clear hkk Hpx Hgd HPX
                have hlenP : ((((colP ⟨ax, ay, az⟩ ⟨bx, by_, bz⟩ ⟨cx, cy, cz⟩ x z 4 ++ sidesP ⟨ax, ay, az⟩ ⟨bx, by_, bz⟩ ⟨cx, cy, cz⟩ x z k) ++ ptVer x z ⟨s0, s1, s2⟩) ++ kP x z ⟨s0, s1, s2⟩ ⟨s3, s4, s5⟩ j) ++ ptX z ⟨s0, s1, s2⟩ ⟨s3, s4, s5⟩ (x + j)).length < 100 := by have q1 := HL1.out; have q2 := ptVer_len x z (⟨s0, s1, s2⟩ : V3); have q3 := kP_len x z ⟨s0, s1, s2⟩ ⟨s3, s4, s5⟩ j; have q4 := ptX_len z ⟨s0, s1, s2⟩ ⟨s3, s4, s5⟩ (x + j); simp only [List.length_append] at q1 ⊢; omega
                have CR := Lib.hid (fun W => refcorner_any ⟨ax, ay, az⟩ ⟨bx, by_, bz⟩ ⟨cx, cy, cz⟩ t ⟨s0 * q + (s3 - s0) * s, (z + j) * q, q⟩ W ho hpg.1 hpg.2)
                have hIk := hkeepB hbx hI1 (hblt hI1)
                have k0 := hcell (k := 0) (v := .int .i64 i) hIk rfl
                have k1 := hcell (k := 1) (v := .int .i64 ax) hIk rfl
                have k2 := hcell (k := 2) (v := .int .i64 ay) hIk rfl
                have k3 := hcell (k := 3) (v := .int .i64 az) hIk rfl
                have k4 := hcell (k := 4) (v := .int .i64 bx) hIk rfl
                have k5 := hcell (k := 5) (v := .int .i64 by_) hIk rfl
                have k6 := hcell (k := 6) (v := .int .i64 bz) hIk rfl
                have k7 := hcell (k := 7) (v := .int .i64 cx) hIk rfl
                have k8 := hcell (k := 8) (v := .int .i64 cy) hIk rfl
                have k9 := hcell (k := 9) (v := .int .i64 cz) hIk rfl
                go_wp2_with fail
                refine (CR.out _).mono ?_
                rintro e wA ⟨rfl, hbA⟩
                have hOA := hOx.below hbA (Nat.le_refl _)
                have hBA := hbx.trans (hbA.mono hbx.size)
                have PT := Lib.hid (put_out hOA hs ⟨s0 * q + (s3 - s0) * s, (z + j) * q, q⟩ hpg hlenP hBA.size)
                clear hIk k0 k1 k2 k3 k4 k5 k6 k7 k8 k9 CR
                go_wp2_with fail
                refine PT.out.mono ?_
                rintro e wB ⟨vB, rfl, hOB, hbB⟩
                have hBB := hBA.trans (hbB.mono hBA.size)
                clear PT hOA hBA
                have hu9 := hkeep hbB (hkeep hbA hux)
                have hv9 := hkeep hbB (hkeep hbA hvx)
                clear hpg hlenP e1 e2 e3 hwn hwt m0 m1 m2 m3 m4 m5 bd1 bd2 bd3 bd4 hbA hbB
                obtain ⟨w9, rfl⟩ : ∃ W : World, W = wB := ⟨_, rfl⟩
                have hO9 := hOB
                have hB9 := hBB
                clear hOB hBB
                have hOe := OutR.of_eq hO9 (pts2 := ((colP ⟨ax, ay, az⟩ ⟨bx, by_, bz⟩ ⟨cx, cy, cz⟩ x z 4 ++ sidesP ⟨ax, ay, az⟩ ⟨bx, by_, bz⟩ ⟨cx, cy, cz⟩ x z k) ++ ptVer x z ⟨s0, s1, s2⟩) ++ kP x z ⟨s0, s1, s2⟩ ⟨s3, s4, s5⟩ (j + 1)) (by rw [HJ.out, HE.out]; simp)
                go_wp2
                go_roundw
                case rel => first | exact ⟨j + 1, by go_num, by omega, hOe, hB9, hu9, hv9⟩ | ((repeat apply Exists.intro); exact ⟨⟨j + 1, by go_num, by omega, hOe, hB9, hu9, hv9⟩, rfl⟩)
                case measure => simp [intOf]; omega

    · have hdzI : (dz : Int) ≤ 1 := by omega
      go_wp2_with fail
      go_loopw [8, 10] (fun s8 s10 wr => ∃ dx : Nat, s10 = .int .i64 dx ∧ dx ≤ 2 ∧ OutR t w1.heap.size wr s8 (colP ⟨ax, ay, az⟩ ⟨bx, by_, bz⟩ ⟨cx, cy, cz⟩ x z (2 * dz + dx)) ∧ Below w1.heap.size w1 wr) (fun _ s10 _ => 2 - (intOf s10).toNat)
      case atStart => exact ⟨0, rfl, by omega, hO, hb⟩
      case round =>
        clear hO hb
        obtain ⟨dx, rfl, hdx, hO, hb⟩ := hrel
        by_cases hx2 : dx = 2
        · subst hx2
          go_wp2
          go_roundw
          case rel => exact ⟨dz + 1, by go_num, by omega, hO, hb⟩
          case measure => simp [intOf]; omega
        · have hdxI : (dx : Int) ≤ 1 := by omega
          obtain ⟨P, hP⟩ : ∃ P : Sp, P = ⟨x + dx, z + dz, 1⟩ := ⟨_, rfl⟩
          have hcol : (colS x z)[2 * dz + dx]? = some P := by
            rw [hP]
            have e1 : dz = 0 ∨ dz = 1 := by omega
            have e2 : dx = 0 ∨ dx = 1 := by omega
            rcases e1 with rfl | rfl <;> rcases e2 with rfl | rfl <;> simp [colS]
          have hst := col_step (a := ⟨ax, ay, az⟩) (b := ⟨bx, by_, bz⟩) (c := ⟨cx, cy, cz⟩) hcol
          have hpg : SpSmall P ∧ 0 < P.d := by
            rw [hP]
            unfold SpSmall
            simp only
            omega
          rw [hP] at hpg hst
          have IN := Lib.hid (fun W => refinside_any ⟨ax, ay, az⟩ ⟨bx, by_, bz⟩ ⟨cx, cy, cz⟩ ⟨x + dx, z + dz, 1⟩ W va vb vc hpg.1)
          have hw1 : IntKind.i64.wrap (x + (dx : Int)) = x + dx := by rw [IntKind.wrap_i64]; omega
          have hw2 : IntKind.i64.wrap (z + (dz : Int)) = z + dz := by rw [IntKind.wrap_i64]; omega
          have hlen : (colP ⟨ax, ay, az⟩ ⟨bx, by_, bz⟩ ⟨cx, cy, cz⟩ x z (2 * dz + dx)).length < 100 := by have := colP_len ⟨ax, ay, az⟩ ⟨bx, by_, bz⟩ ⟨cx, cy, cz⟩ x z (2 * dz + dx); omega
          have Hpg := Lib.hid hpg
          have Hlen := Lib.hid hlen
          clear hcol hP hpg hlen
          generalize insideR ⟨ax, ay, az⟩ ⟨bx, by_, bz⟩ ⟨cx, cy, cz⟩ ⟨x + dx, z + dz, 1⟩ = r at IN hst
          have Hst := Lib.hid hst
          clear hst
          have hIk := hkeepB hb hI1 (hblt hI1)
          have k0 := hcell (k := 0) (v := .int .i64 i) hIk rfl
          have k1 := hcell (k := 1) (v := .int .i64 ax) hIk rfl
          have k2 := hcell (k := 2) (v := .int .i64 ay) hIk rfl
          have k3 := hcell (k := 3) (v := .int .i64 az) hIk rfl
          have k4 := hcell (k := 4) (v := .int .i64 bx) hIk rfl
          have k5 := hcell (k := 5) (v := .int .i64 by_) hIk rfl
          have k6 := hcell (k := 6) (v := .int .i64 bz) hIk rfl
          have k7 := hcell (k := 7) (v := .int .i64 cx) hIk rfl
          have k8 := hcell (k := 8) (v := .int .i64 cy) hIk rfl
          have k9 := hcell (k := 9) (v := .int .i64 cz) hIk rfl
          go_wp2_with fail
          refine (IN.out _).mono ?_
          rintro e w2 ⟨rfl, hb2⟩
          have hO2 := hO.below hb2 (Nat.le_refl _)
          have hB2 := hb.trans (hb2.mono hb.size)
          clear hIk k0 k1 k2 k3 k4 k5 k6 k7 k8 k9 IN hO hb hb2
          cases r with
          | false =>
            go_wp2
            go_roundw
            case rel => exact ⟨dx + 1, by go_num, by omega, by rw [← Nat.add_assoc, Hst.out, if_neg (by decide)]; exact hO2, hB2⟩
            case measure => simp [intOf]; omega
          | true =>
            have CR := Lib.hid (fun W => refcorner_any ⟨ax, ay, az⟩ ⟨bx, by_, bz⟩ ⟨cx, cy, cz⟩ t ⟨x + dx, z + dz, 1⟩ W ho Hpg.out.1 Hpg.out.2)
            have hIk := hkeepB hB2 hI1 (hblt hI1)
            have k0 := hcell (k := 0) (v := .int .i64 i) hIk rfl
            have k1 := hcell (k := 1) (v := .int .i64 ax) hIk rfl
            have k2 := hcell (k := 2) (v := .int .i64 ay) hIk rfl
            have k3 := hcell (k := 3) (v := .int .i64 az) hIk rfl
            have k4 := hcell (k := 4) (v := .int .i64 bx) hIk rfl
            have k5 := hcell (k := 5) (v := .int .i64 by_) hIk rfl
            have k6 := hcell (k := 6) (v := .int .i64 bz) hIk rfl
            have k7 := hcell (k := 7) (v := .int .i64 cx) hIk rfl
            have k8 := hcell (k := 8) (v := .int .i64 cy) hIk rfl
            have k9 := hcell (k := 9) (v := .int .i64 cz) hIk rfl
            go_wp2_with fail
            refine (CR.out _).mono ?_
            rintro e wA ⟨rfl, hbA⟩
            have hOA := hO2.below hbA (Nat.le_refl _)
            have hBA := hB2.trans (hbA.mono hB2.size)
            have PT := Lib.hid (put_out hOA hs ⟨x + dx, z + dz, 1⟩ Hpg.out Hlen.out hBA.size)
            clear hIk k0 k1 k2 k3 k4 k5 k6 k7 k8 k9 CR
            go_wp2_with fail
            refine PT.out.mono ?_
            rintro e wB ⟨vB, rfl, hOB, hbB⟩
            have hBB := hBA.trans (hbB.mono hBA.size)
            clear PT hOA hBA
            go_wp2
            go_roundw
            case rel => exact ⟨dx + 1, by go_num, by omega, by rw [← Nat.add_assoc, Hst.out, if_pos (by trivial)]; exact hOB, hBB⟩
            case measure => simp [intOf]; omega
end Go.Proofs.YtjiklfffcnfdjaaGreat

namespace Go.Proofs.YtjiklfffcnfdjaaGreat
open Go.RowKit

theorem refcorners_any (i : Int) (a b c : V3) (x z : Int) (w : World) :
    Calls Tryz.prog 57 #[tiA i a b c, .int .i64 x, .int .i64 z] w fun e w' => ∃ ad cp l err, e = .returned (.tuple #[.slice ad l.length cp, .int .i64 err]) ∧ CornRes a b c x z l err ∧ SlR crC 4 w' ad l.length cp l ∧ Below w.heap.size w w' := by
  cases ho : (openT a b c).2 with
  | false =>
    refine (refcorners_no i a b c x z w ho).mono ?_
    rintro e w' ⟨rfl, hb⟩
    exact ⟨none, 0, [], 40, rfl, .inl ⟨ho, rfl, rfl⟩, SlR.nil _ _ _, hb⟩
  | true =>
    by_cases hc : inC x z
    · refine (refcorners_good i a b c x z w _ (open_pair ho) hc).mono ?_
      rintro e w' ⟨ad, cp, l, rfl, h1, h2, h3⟩
      exact ⟨ad, cp, l, 0, rfl, .inr (.inr ⟨ho, hc, h1, rfl⟩), h2, h3⟩
    · refine (refcorners_out i a b c x z w ho hc).mono ?_
      rintro e w' ⟨rfl, hb⟩
      exact ⟨none, 0, [], 2, rfl, .inr (.inl ⟨ho, hc, rfl, rfl⟩), SlR.nil _ _ _, hb⟩
end Go.Proofs.YtjiklfffcnfdjaaGreat
