/- Walk: the columns that a segment meets, in their order. -/
import Derived.Test.YtndjljefppbmcaaCelC
namespace Go.Proofs.Ytndjljefppbmcaa
open Go.RowKit

/-- What Cells answers. -/
def cellsPost (a b : Pt) (w : World) (e : Ending) (w' : World) : Prop :=
  ∃ ad n c l, e = .returned (.tuple #[.slice ad n c, .int .i64 (if pointOk a && pointOk b then 0 else 2)]) ∧ SlCe w' ad n c l ∧ n ≤ 2000 ∧ ((pointOk a && pointOk b) = true → CelAt a b l) ∧ ((pointOk a && pointOk b) = false → l = []) ∧ Below w.heap.size w w'

/-- 'append(out, x)' at a world that is itself of some blocks more: the record's block by its number. -/
theorem wpList_appRj {α : Type} {f : α → List Value} {sz : Nat} {e : TypeId} {B : Nat} {v : Value} {n : Nat} {xs : List α} {P : Program} (w : World) {ops : Array Oper} {rest : List Oper} {o : Oper} {a : Act} {Q : Exit → Act → World → Prop}
    (hf : ∀ x, (f x).length = sz) (h1 : ∀ x, ∀ u ∈ f x, u.oneCell' = true) (hgd : o.guard = none) (s x : Operand) (t : TypeId) (hop : o.op = Op.call { callee := Callee.builtin Builtin.append, args := #[s, x], argTypes := #[t, t] })
    (z : Value) (bytes : Nat) (ht : P.underlying t = some (.slice e)) (hi : (P.info? e).map (fun i => (i.zero, i.size, i.bytes)) = some (some z, sz, bytes)) (hz : z.cells.size = sz) (hsz : 0 < sz)
    (y : α) (e' : TypeId) (hown : OwnR f sz e B w v n xs) (hs : a.eval s = v) (j : Nat)
    (hx : a.eval x = .slice (some ⟨j, 0, none⟩) 1 1) (hj : w.heap.size = j)
    (h63 : n + 1 ≤ 9223372036854775807) (hbytes : (n + 1) * bytes ≤ 140737488355328) (hbase : B ≤ w.heap.size)
    (hK : ∀ v' w', OwnR f sz e B w' v' (n + 1) (xs ++ [y]) → Appd w w' v v' → wpList P ops Q rest (a.put o.dst v') w') :
    wpList P ops Q (o :: rest) a (w.alloc (.cells (f y).toArray e')) := by
  subst hj
  exact wpList_appR w hf h1 hgd s x t hop z bytes ht hi hz hsz y e' hown hs hx h63 hbytes hbase hK
theorem own_len {α : Type} {f : α → List Value} {sz : Nat} {e : TypeId} {B : Nat} {w : World} {v : Value} {n : Nat} {xs : List α} (h : OwnR f sz e B w v n xs) : OwnR f sz e B w v xs.length xs := by rw [h.1]; exact h
theorem low_tdiv {a b : Int} (ha : 0 ≤ a) (hb : 0 ≤ b) : lowS a b = (min a b + 1) / 2 - 1 := by
  unfold lowS
  rw [Int.tdiv_eq_ediv_of_nonneg (by omega)]

set_option maxRecDepth 100000 in
set_option maxHeartbeats 8000000 in
theorem cells_bad (a b : Pt) (w : World) (h : (pointOk a && pointOk b) = false) : Calls Try.prog 21 #[ptA a, ptA b] w (cellsPost a b w) := by
  have h2 : ((w.alloc (.cells #[.int .i64 a.x, .int .i64 a.z] 36)).alloc (.cells #[.int .i64 b.x, .int .i64 b.z] 36)).heap[w.heap.size + 1]? = some (.cells #[.int .i64 b.x, .int .i64 b.z] 36 (0, 0)) := by
    have := World.alloc_heap_new (w.alloc (.cells #[.int .i64 a.x, .int .i64 a.z] 36)) (.cells #[.int .i64 b.x, .int .i64 b.z] 36)
    simpa using this
  have hB : Below w.heap.size w ((w.alloc (.cells #[.int .i64 a.x, .int .i64 a.z] 36)).alloc (.cells #[.int .i64 b.x, .int .i64 b.z] 36)) := ((Below.refl _ _).alloc (Nat.le_refl _) _).alloc (by simp) _
  have PA := Lib.hid (fun W => cpoint_any a W)
  have PB := Lib.hid (fun W => cpoint_any b W)
  have HF : Hid (∀ w', Below w.heap.size w w' → cellsPost a b w (.returned (.tuple #[.slice none 0 0, .int .i64 2])) w') := fun w' hb => ⟨none, 0, 0, [], by rw [h]; rfl, SlR.nil _ _ _, by omega, fun h' => (by rw [h] at h'; cases h'), fun _ => rfl, hb⟩
  by_cases ha : pointOk a = true
  · have hb : pointOk b = false := by simpa [ha] using h
    rw [ha] at PA
    rw [hb] at PB
    obtain ⟨ax, az⟩ := a
    obtain ⟨bx, bz⟩ := b
    simp only at h2 hB
    clear h ha hb
    go_enter Try.func21, Try.ntmps21
    go_wp2_with fail
    refine (PA.out _).mono ?_
    rintro e w1 ⟨rfl, hb1⟩
    have h2' := hkeep hb1 h2
    have hB1 := hB.trans (hb1.mono hB.size)
    have d1 := hcell (k := 0) (v := .int .i64 bx) h2' rfl
    have d2 := hcell (k := 1) (v := .int .i64 bz) h2' rfl
    clear h2 h2' hB hb1
    go_wp2_with fail
    refine (PB.out _).mono ?_
    rintro e w2 ⟨rfl, hb2⟩
    have hB2 := hB1.trans (hb2.mono hB1.size)
    go_wp2
    go_ret2
    exact HF.out _ hB2
  · have ha' : pointOk a = false := by simpa using ha
    rw [ha'] at PA
    obtain ⟨ax, az⟩ := a
    obtain ⟨bx, bz⟩ := b
    simp only at h2 hB
    clear h ha ha'
    go_enter Try.func21, Try.ntmps21
    go_wp2_with fail
    refine (PA.out _).mono ?_
    rintro e w1 ⟨rfl, hb1⟩
    have hB1 := hB.trans (hb1.mono hB.size)
    go_wp2
    go_ret2
    exact HF.out _ hB1

set_option maxRecDepth 100000 in
set_option maxHeartbeats 8000000 in
theorem cells_good (ax az bx bz : Int) (w : World) (ha : pointOk ⟨ax, az⟩ = true) (hb : pointOk ⟨bx, bz⟩ = true) : Calls Try.prog 21 #[ptA ⟨ax, az⟩, ptA ⟨bx, bz⟩] w (cellsPost ⟨ax, az⟩ ⟨bx, bz⟩ w) := by
  have hB : Below w.heap.size w ((w.alloc (.cells #[.int .i64 ax, .int .i64 az] 36)).alloc (.cells #[.int .i64 bx, .int .i64 bz] 36)) := ((Below.refl _ _).alloc (Nat.le_refl _) _).alloc (by simp) _
  have h2 : ((w.alloc (.cells #[.int .i64 ax, .int .i64 az] 36)).alloc (.cells #[.int .i64 bx, .int .i64 bz] 36)).heap[w.heap.size]? = some (.cells #[.int .i64 ax, .int .i64 az] 36 (0, 0)) := halloc (World.alloc_heap_new _ _) _
  have h3 : ((w.alloc (.cells #[.int .i64 ax, .int .i64 az] 36)).alloc (.cells #[.int .i64 bx, .int .i64 bz] 36)).heap[w.heap.size + 1]? = some (.cells #[.int .i64 bx, .int .i64 bz] 36 (0, 0)) := by
    have := World.alloc_heap_new (w.alloc (.cells #[.int .i64 ax, .int .i64 az] 36)) (.cells #[.int .i64 bx, .int .i64 bz] 36)
    simpa using this
  have PA := Lib.hid (fun W => cpoint_any ⟨ax, az⟩ W)
  have PB := Lib.hid (fun W => cpoint_any ⟨bx, bz⟩ W)
  rw [ha] at PA
  rw [hb] at PB
  have HM := Lib.hid (fun (x z : Int) (W : World) hx hz => meet_any ⟨ax, az⟩ ⟨bx, bz⟩ x z W ha hb hx hz)
  have HS := Lib.hid (rawC_small ha hb)
  have hpa := pointOk_iff.1 ha
  have hpb := pointOk_iff.1 hb
  have Bx := Lib.hid (lowS_bounds (a := ax) (b := bx) (by simp only at hpa; omega) (by simp only at hpb; omega))
  have Bz := Lib.hid (lowS_bounds (a := az) (b := bz) (by simp only at hpa; omega) (by simp only at hpb; omega))
  simp only at hpa hpb
  have HRow := Lib.hid (rowC_succ ⟨ax, az⟩ ⟨bx, bz⟩)
  have HRows := Lib.hid (rowsC_succ ⟨ax, az⟩ ⟨bx, bz⟩)
  have HRowL := Lib.hid (rowC_len ⟨ax, az⟩ ⟨bx, bz⟩)
  have HRowsL := Lib.hid (rowsC_len ⟨ax, az⟩ ⟨bx, bz⟩)
  have HF : Hid (∀ (w' : World) (v : Option Addr × Nat × Nat) (l : List Cel), SlCe w' v.1 v.2.1 v.2.2 l → v.2.1 ≤ 2000 → l.Perm (rowsC ⟨ax, az⟩ ⟨bx, bz⟩ (numS az bz)) → l.Pairwise (fun p q => ¬ cltC q p) → Below w.heap.size w w' → cellsPost ⟨ax, az⟩ ⟨bx, bz⟩ w (.returned (.tuple #[.slice v.1 v.2.1 v.2.2, .int .i64 0])) w') := fun w' v l h1 h2 h3 h4 h5 => ⟨v.1, v.2.1, v.2.2, l, by rw [ha, hb]; rfl, h1, h2, fun _ => ⟨h3, h4⟩, fun h' => (by rw [ha, hb] at h'; cases h'), h5⟩
  have HS2 : Hid (∀ c ∈ rowsC ⟨ax, az⟩ ⟨bx, bz⟩ (numS az bz), RtSmall 1000 c.p) := fun c hc => (HS.out c hc).1
  clear ha hb HS
  generalize hR : rowC ⟨ax, az⟩ ⟨bx, bz⟩ = R at HRow HRows HRowL
  generalize hRs : rowsC ⟨ax, az⟩ ⟨bx, bz⟩ = Rs at HRows HRowsL HF HS2
  have HR0 : Hid (∀ z, R z 0 = []) := fun z => by rw [← hR]; rfl
  have HRs0 : Hid (Rs 0 = []) := by show _ = _; rw [← hRs]; rfl
  clear hR hRs
  simp only at HRow HRows HRowL HRowsL
  obtain ⟨LX, hLX⟩ : ∃ L, L = lowS ax bx := ⟨_, rfl⟩
  obtain ⟨LZ, hLZ⟩ : ∃ L, L = lowS az bz := ⟨_, rfl⟩
  obtain ⟨NX, hNX⟩ : ∃ L, L = numS ax bx := ⟨_, rfl⟩
  obtain ⟨NZ, hNZ⟩ : ∃ L, L = numS az bz := ⟨_, rfl⟩
  rw [← hLX, ← hNX] at Bx
  rw [← hLZ, ← hNZ] at Bz
  rw [← hLX] at HRow
  rw [← hLZ, ← hNX] at HRows
  rw [← hNX] at HRowsL
  rw [← hNZ] at HF HS2
  clear hLX hLZ hNX hNZ
  have hNX : NX ≤ 34 := Bx.out.2.2.2.2
  have hNZ : NZ ≤ 34 := Bz.out.2.2.2.2
  have lx1 := Bx.out.1
  have lx2 := Bx.out.2.1
  have lz1 := Bz.out.1
  have lz2 := Bz.out.2.1
  have HcX : Hid (∀ k : Nat, k ≤ NX → (2 * (LX + (k : Int)) ≤ max ax bx ↔ k < NX)) := fun k hk => by
    have := Bx.out
    omega
  have HcZ : Hid (∀ k : Nat, k ≤ NZ → (2 * (LZ + (k : Int)) ≤ max az bz ↔ k < NZ)) := fun k hk => by
    have := Bz.out
    omega
  have HlX : Hid (LX = (min ax bx + 1) / 2 - 1) := Bx.out.2.2.1
  have HlZ : Hid (LZ = (min az bz + 1) / 2 - 1) := Bz.out.2.2.1
  clear Bx Bz
  go_enter Try.func21, Try.ntmps21
  go_wp2_with fail
  generalize ((w.alloc (.cells #[.int .i64 ax, .int .i64 az] 36)).alloc (.cells #[.int .i64 bx, .int .i64 bz] 36)) = W at hB h2 h3 ⊢
  refine (PA.out _).mono ?_
  rintro e w1 ⟨rfl, hb1⟩
  have h2' := hkeep hb1 h2
  have h3' := hkeep hb1 h3
  have hB1 := hB.trans (hb1.mono hB.size)
  have d1 := hcell (k := 0) (v := .int .i64 bx) h3' rfl
  have d2 := hcell (k := 1) (v := .int .i64 bz) h3' rfl
  clear h2 h3 hB hb1
  go_wp2_with fail
  refine (PB.out _).mono ?_
  rintro e w2 ⟨rfl, hb2⟩
  have h2 := hkeep hb2 h2'
  have h3 := hkeep hb2 h3'
  have hB := hB1.trans (hb2.mono hB1.size)
  clear h2' h3' hB1 hb2 d1 d2
  have c1 := hcell (k := 0) (v := .int .i64 ax) h2 rfl
  have c2 := hcell (k := 1) (v := .int .i64 az) h2 rfl
  have d1 := hcell (k := 0) (v := .int .i64 bx) h3 rfl
  have d2 := hcell (k := 1) (v := .int .i64 bz) h3 rfl
  go_wp2_with fail
  clear c1 c2 d1 d2
  go_loopw [6, 7] (fun v z wr => ∃ k : Nat, z = .int .i64 (LZ + k) ∧ k ≤ NZ ∧ OwnR ceC 6 43 (w.heap.size + 1 + 1) wr v (Rs k).length (Rs k) ∧ wr.heap[w.heap.size]? = some (.cells #[.int .i64 ax, .int .i64 az] 36 (0, 0)) ∧ wr.heap[w.heap.size + 1]? = some (.cells #[.int .i64 bx, .int .i64 bz] 36 (0, 0)) ∧ Below w.heap.size w wr) (fun _ z _ => (LZ + NZ - intOf z).toNat)
  case atStart => exact ⟨0, by congr 1; have := HlZ.out; omega, Nat.zero_le _, by rw [HRs0.out]; exact OwnR.nil _ _ _ _ _, h2, h3, hB⟩
  case round =>
    obtain ⟨k, rfl, hk, hown, h2, h3, hB⟩ := hrel
    have c1 := hcell (k := 0) (v := .int .i64 ax) h2 rfl
    have c2 := hcell (k := 1) (v := .int .i64 az) h2 rfl
    have d1 := hcell (k := 0) (v := .int .i64 bx) h3 rfl
    have d2 := hcell (k := 1) (v := .int .i64 bz) h3 rfl
    obtain ⟨Z, hZ0⟩ : ∃ Z, Z = LZ + (k : Int) := ⟨_, rfl⟩
    have hcond : 2 * Z ≤ max az bz ↔ k < NZ := by rw [hZ0]; exact HcZ.out k hk
    have hZ1 : -1 ≤ Z ∧ Z ≤ 66 := by omega
    rw [← hZ0]
    have hZ := Lib.hid hZ0
    clear hZ0
    have hrl := HRowsL.out k
    have hrl2 : k * NX ≤ 34 * 34 := Nat.mul_le_mul (by omega) (by omega)
    by_cases hlt : k < NZ
    · have hc1 : 2 * Z ≤ max az bz := hcond.2 hlt
      clear hcond
      go_wp2_with fail
      clear c1 c2 d1 d2
      go_loopw [6, 8] (fun v x wr => ∃ j : Nat, x = .int .i64 (LX + j) ∧ j ≤ NX ∧ OwnR ceC 6 43 (w.heap.size + 1 + 1) wr v (Rs k ++ R Z j).length (Rs k ++ R Z j) ∧ wr.heap[w.heap.size]? = some (.cells #[.int .i64 ax, .int .i64 az] 36 (0, 0)) ∧ wr.heap[w.heap.size + 1]? = some (.cells #[.int .i64 bx, .int .i64 bz] 36 (0, 0)) ∧ Below w.heap.size w wr) (fun _ x _ => (LX + NX - intOf x).toNat)
      case atStart => exact ⟨0, by congr 1; have := HlX.out; omega, Nat.zero_le _, by rw [HR0.out, List.append_nil]; exact hown, h2, h3, hB⟩
      case round =>
        obtain ⟨j, rfl, hj, hown, h2, h3, hB⟩ := hrel
        have c1 := hcell (k := 0) (v := .int .i64 ax) h2 rfl
        have c2 := hcell (k := 1) (v := .int .i64 az) h2 rfl
        have d1 := hcell (k := 0) (v := .int .i64 bx) h3 rfl
        have d2 := hcell (k := 1) (v := .int .i64 bz) h3 rfl
        obtain ⟨X, hX0⟩ : ∃ X, X = LX + (j : Int) := ⟨_, rfl⟩
        have hcond : 2 * X ≤ max ax bx ↔ j < NX := by rw [hX0]; exact HcX.out j hj
        have hX1 : -1 ≤ X ∧ X ≤ 66 := by omega
        rw [← hX0]
        have hX := Lib.hid hX0
        clear hX0
        have hll := HRowL.out Z j
        have hll2 : (Rs k ++ R Z j).length = (Rs k).length + (R Z j).length := List.length_append
        by_cases hjx : j < NX
        · have hc2 : 2 * X ≤ max ax bx := hcond.2 hjx
          clear hcond
          have hrow := HRow.out Z j
          rw [← hX.out] at hrow
          have HM1 := Lib.hid (fun W => HM.out X Z W (by have := hpa; omega) (by have := hpa; omega))
          generalize meetC ⟨ax, az⟩ ⟨bx, bz⟩ X Z = mc at hrow HM1
          obtain ⟨cc, ok⟩ := mc
          simp only at hrow HM1
          have Hrow := Lib.hid hrow
          clear hrow
          go_wp2_with fail
          refine (HM1.out _).mono ?_
          rintro e w3 ⟨rfl, hb3⟩
          have h2' := hkeep hb3 h2
          have h3' := hkeep hb3 h3
          have hown1 := hown.below hb3 (Nat.le_refl _)
          have hB1 := hB.trans (hb3.mono hB.size)
          have hs3 := hblt h3'
          clear h2 h3 hown hB hb3 c1 c2 d1 d2 HM1
          have hown3 := hown1.alloc (.cells #[.int .i64 cc.x, .int .i64 cc.z, .int .i64 cc.p.n, .int .i64 cc.p.d, .int .i64 cc.q.n, .int .i64 cc.q.d] 43)
          have hB3 : Below w.heap.size w (w3.alloc (.cells #[.int .i64 cc.x, .int .i64 cc.z, .int .i64 cc.p.n, .int .i64 cc.p.d, .int .i64 cc.q.n, .int .i64 cc.q.d] 43)) := hB1.alloc hB1.size _
          have h2 := halloc h2' (.cells #[.int .i64 cc.x, .int .i64 cc.z, .int .i64 cc.p.n, .int .i64 cc.p.d, .int .i64 cc.q.n, .int .i64 cc.q.d] 43)
          have h3 := halloc h3' (.cells #[.int .i64 cc.x, .int .i64 cc.z, .int .i64 cc.p.n, .int .i64 cc.p.d, .int .i64 cc.q.n, .int .i64 cc.q.d] 43)
          clear hown1 hB1 h2' h3'
          cases ok with
          | true =>
            have HN : Hid (Rs k ++ R Z (j + 1) = Rs k ++ R Z j ++ [cc]) := by show _ = _; rw [Hrow.out, ← List.append_assoc]; rfl
            go_wp2_with (at_builtin; refine wpList_appRj (f := ceC) (sz := 6) (e := 43) (B := w.heap.size + 1 + 1) (n := (Rs k ++ R Z j).length) (xs := Rs k ++ R Z j) _ ceC_len ceC_one rfl _ _ 37 rfl (.agg #[.int .i64 0, .int .i64 0, .int .i64 0, .int .i64 0, .int .i64 0, .int .i64 0]) 48 Try.underlying37 info_cel rfl (by decide) cc 43 hown3 rfl _ rfl (by simp) (by omega) (by omega) (by simp; omega) ?_; intro v' w' hown' happ)
            have hne := hown3.le
            have h2' := hgrown happ.grown h2 (own_ne hne (by omega))
            have h3' := hgrown happ.grown h3 (own_ne hne (by omega))
            have hB' := hB3.trans (happ.below (B := w.heap.size) hB3.size (fun j hj => by have := hne j hj; omega))
            clear happ hown3 hB3 h2 h3
            go_wp2
            go_roundw
            case rel => exact ⟨j + 1, by congr 1; have := hX.out; omega, by omega, by rw [HN.out]; exact own_len hown', h2', h3', hB'⟩
            case measure => simp [intOf]; first | omega | (have := hX.out; omega) | (have := hZ.out; omega)
          | false =>
            have HN : Hid (Rs k ++ R Z (j + 1) = Rs k ++ R Z j) := by show _ = _; rw [Hrow.out]; simp
            go_wp2
            go_roundw
            case rel => exact ⟨j + 1, by congr 1; have := hX.out; omega, by omega, by rw [HN.out]; exact hown3, h2, h3, hB3⟩
            case measure => simp [intOf]; first | omega | (have := hX.out; omega) | (have := hZ.out; omega)
        · have hc2 : ¬ 2 * X ≤ max ax bx := fun h => hjx (hcond.1 h)
          obtain rfl : j = NX := by omega
          clear hcond
          have HN : Hid (Rs (k + 1) = Rs k ++ R Z j) := by show _ = _; rw [HRows.out, ← hZ.out]
          go_wp2
          go_roundw
          case rel => exact ⟨k + 1, by congr 1; have := hZ.out; omega, by omega, by rw [HN.out]; exact hown, h2, h3, hB⟩
          case measure => simp [intOf]; first | omega | (have := hX.out; omega) | (have := hZ.out; omega)
    · have hc1 : ¬ 2 * Z ≤ max az bz := fun h => hlt (hcond.1 h)
      obtain rfl : k = NZ := by omega
      clear hcond
      have HL := own_len hown
      go_wp2_with fail
      refine (sortcel_any _ _ _ _ _ HS2.out hown (by omega)).mono ?_
      rintro e w3 ⟨rfl, l, ad, c, rfl, hperm, hsort, hsl, hb3⟩
      have hB3 := hB.trans (hb3.mono (by omega))
      have HP := HF.out w3 (ad, (Rs k).length, c) l hsl (by simp only; omega) hperm hsort hB3
      clear hB hb3 hsl hperm hsort hown HL HF HS2 c1 c2 d1 d2 h2 h3
      go_wp2
      go_ret2
      exact HP

theorem cells_any (a b : Pt) (w : World) : Calls Try.prog 21 #[ptA a, ptA b] w (cellsPost a b w) := by
  by_cases h : (pointOk a && pointOk b) = true
  · rw [Bool.and_eq_true] at h
    obtain ⟨ax, az⟩ := a
    obtain ⟨bx, bz⟩ := b
    exact cells_good ax az bx bz w h.1 h.2
  · exact cells_bad a b w (by simpa using h)

end Go.Proofs.Ytndjljefppbmcaa
