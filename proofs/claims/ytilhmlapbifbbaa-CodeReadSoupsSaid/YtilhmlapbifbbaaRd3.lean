/- Walks: the reader reads rows of things. -/
import Derived.Test.YtilhmlapbifbbaaRd2
namespace Go.Proofs.Ytilhmlapbifbbaa
open Go.RowKit Go.Sort

/-- 'append(out, x)': out is one's own row of records, x lies in a block of its own (the model builds it so). -/
theorem wpList_appR {P : Program} (w : World) {ops : Array Oper} {rest : List Oper} {o : Oper} {a : Act} {Q : Exit → Act → World → Prop}
    (hgd : o.guard = none) (s x : Operand) (t : TypeId) (hop : o.op = Op.call { callee := Callee.builtin Builtin.append, args := #[s, x], argTypes := #[t, t] })
    (base : Nat) (e : TypeId) (z : Value) (size bytes : Nat) (ht : P.underlying t = some (.slice e)) (hi : (P.info? e).map (fun i => (i.zero, i.size, i.bytes)) = some (some z, size, bytes)) (hzs : z.cells.size = size) (hsz : 0 < size)
    (v : Value) (n : Nat) (xs y : List Value) (e' : TypeId) (hy : y.length = size) (h1 : ∀ u ∈ y, u.oneCell' = true) (hown : w.ownsRow base e size v n xs) (hs : a.eval s = v)
    (hx : a.eval x = .slice (some ⟨w.heap.size, 0, none⟩) 1 1)
    (h63 : n + 1 ≤ 9223372036854775807) (hbytes : (n + 1) * bytes ≤ 140737488355328) (hbase : base ≤ w.heap.size)
    (hK : ∀ v' w', w'.ownsRow base e size v' (n + 1) (xs ++ y) → Appd w w' v v' → wpList P ops Q rest (a.put o.dst v') w') :
    wpList P ops Q (o :: rest) a (w.alloc (.cells y.toArray e')) := by
  obtain ⟨i, hi, hz0, hz1, hz2⟩ := info_parts hi
  refine wpList_app (w.alloc (.cells y.toArray e')) hgd s x t hop base e i z size bytes ht hi hz0 hz1 hz2 hzs hsz v n xs hs (hown.alloc _) ⟨w.heap.size, 0, none⟩ 1 1 y hx (by decide) (by omega) ?_ h1 (by unfold maxLen; omega) hbytes (by simp; omega) ?_
  · intro j u hu
    rw [Addr.add_lit, Nat.zero_add]
    exact cell_heap (k := j) (v := u) (World.alloc_heap_new w (.cells y.toArray e')) (by simpa using hu)
  · intro v' w' h1 h2
    exact hK v' w' h1 (Appd.trans (Appd.alloc (Appd.refl w v) _) h2)
theorem gb_app {w0 w w' : World} {v v' : Value} {row : Option Nat} (h : w0.grownBy w row) (hp : Appd w w' v v') (hv : ∀ j, v.ownBlock = some j → w0.heap.size ≤ j) : w0.grownBy w' row :=
  World.grownBy.andThen h hp.grown (fun j hj => .inl (hv j hj))
theorem rdUp_range {xs : List Int} {st : RS} {m : Int} (hm : 0 ≤ m) (hb : ∀ x ∈ xs, 0 ≤ x ∧ x ≤ 255) : 0 ≤ (rdUp xs m st).1 ∧ (rdUp xs m st).1 ≤ m := by
  unfold rdUp
  have := rdNum_range (st := st) hb
  split
  · exact ⟨by simp, by simpa using hm⟩
  · rename_i h
    exact ⟨this.1, by omega⟩
theorem rows_nil {α : Type} {one : RS → α × RS} {j : Nat} {s : RS} (h : j = 0 ∨ s.2 = true) : rdRows one j s = ([], s) := by
  rcases h with h | h
  · subst h; rfl
  · cases j <;> simp [rdRows, h]
theorem rows_cons {α : Type} {one : RS → α × RS} {j : Nat} {s : RS} (h : s.2 = false) : rdRows one (j + 1) s = ((one s).1 :: (rdRows one j (one s).2).1, (rdRows one j (one s).2).2) := by simp [rdRows, h]


theorem info_tri : (Try.prog.info? 112).map (fun i => (i.zero, i.size, i.bytes)) = some (some (.agg #[.int .i64 0, .int .i64 0, .int .i64 0, .int .i64 0, .int .i64 0, .int .i64 0, .int .i64 0, .int .i64 0, .int .i64 0, .int .i64 0]), 10, 80) := by kernel_rfl
theorem oneCells_tri (t : Tri3) : ∀ u ∈ triC t, u.oneCell' = true := by
  intro u hu
  simp only [triC, List.mem_cons, List.not_mem_nil, or_false] at hu
  rcases hu with rfl | rfl | rfl | rfl | rfl | rfl | rfl | rfl | rfl | rfl <;> rfl
set_option maxRecDepth 100000 in
set_option maxHeartbeats 4000000 in
theorem rrows_tri (m : Nat) (hm : m ≤ 1000) (w : World) (rb : Nat) (a : Option Addr) (n c : Nat) (xs : List Int) (st : RS) (h : RdAt 123 (fun b => b) w rb a n c xs st) :
    Calls Try.prog 83 #[.pointer (some ⟨rb, 0, none⟩), .int .i64 m, .func (Fn.func 84) #[.pointer (some ⟨rb, 0, none⟩)] #[]] w fun e w' => ∃ v, e = .returned v ∧ w'.ownsRow w.heap.size 112 10 v (rdList xs m (rdTri xs) st).1.length ((rdList xs m (rdTri xs) st).1.flatMap triC) ∧ RdAt 123 (fun b => b) w' rb a n c xs (rdList xs m (rdTri xs) st).2 ∧ w.grownBy w' (some rb) := by
  have hlt := h.lt
  have hN := rdUp_range (m := m) (st := st) (by omega) h.byte
  have UP := Lib.hid (rup_any m w rb a n c xs st h)
  have ON := Lib.hid (fun (W : World) (s : RS) (h : RdAt 123 (fun b => b) W rb a n c xs s) => by
    have := rtri_any W rb a n c xs s h
    unfold triC at this
    exact this)
  clear h
  obtain ⟨V, HV⟩ : ∃ V, Hid (V = rdList xs m (rdTri xs) st) := ⟨_, rfl⟩
  rw [← HV.out]
  obtain ⟨⟨N, s0⟩, hN0⟩ : ∃ r, r = rdUp xs m st := ⟨_, rfl⟩
  rw [← hN0] at UP hN
  obtain ⟨N, rfl⟩ : ∃ k : Nat, N = (k : Int) := ⟨N.toNat, by simp only at hN; omega⟩
  have HV0 : Hid (V = rdRows (rdTri xs) N s0) := by show _ = _; rw [HV.out, rdList, ← hN0]; rfl
  simp only at hN
  have hNm : N ≤ m := by omega
  clear HV hN0 hN
  go_enter Try.func83, Try.ntmps83
  go_wp2_with fail
  refine UP.out.mono ?_
  rintro e w1 ⟨rfl, hA, hG⟩
  have hsz := hG.size
  go_wp2
  go_loopw [6, 7] (fun b i wr => ∃ (j : Nat) (l : List Tri3) (s : RS), i = .int .i64 j ∧ l.length + j = N ∧ wr.ownsRow w.heap.size 112 10 b l.length (l.flatMap triC) ∧ RdAt 123 (fun b => b) wr rb a n c xs s ∧ w.grownBy wr (some rb) ∧ Hid (V = (l ++ (rdRows (rdTri xs) j s).1, (rdRows (rdTri xs) j s).2))) (fun _ i _ => (intOf i).toNat)
  case atStart => exact ⟨N, [], s0, rfl, by simp, World.ownsRow_nil _ _ _ _, hA, hG, HV0.out⟩
  case round =>
  clear hA hG
  obtain ⟨j, l, ⟨s1, bad⟩, rfl, hl, ho, hA, hG, HW⟩ := hrel
  have hsz := hG.size
  have c2 := cell_heap (k := 2) (v := .bool bad) hA.blk rfl
  by_cases hj : j = 0
  · subst hj
    have HX : Hid (V = (l, (s1, bad))) := by show _ = _; rw [HW.out, rows_nil (.inl rfl)]; simp
    go_wp2
    go_ret
    rw [HX.out]
    exact ⟨_, rfl, ho, hA, hG⟩
  have hjI : (0 : Int) < (j : Int) := by omega
  cases bad with
  | true =>
    have HX : Hid (V = (l, (s1, true))) := by show _ = _; rw [HW.out, rows_nil (.inr rfl)]; simp
    go_wp2
    go_ret
    rw [HX.out]
    exact ⟨_, rfl, ho, hA, hG⟩
  | false =>
    obtain ⟨k, rfl⟩ : ∃ k, j = k + 1 := ⟨j - 1, by omega⟩
    obtain ⟨r, hr⟩ : ∃ r, Hid (r = rdTri xs (s1, false)) := ⟨_, rfl⟩
    have HX : Hid (V = ((l ++ [r.1]) ++ (rdRows (rdTri xs) k r.2).1, (rdRows (rdTri xs) k r.2).2)) := by show _ = _; rw [HW.out, rows_cons rfl, hr.out]; simp
    have CO := ON.out _ _ hA
    rw [← hr.out] at CO
    go_wp2_with fail
    refine CO.mono ?_
    rintro e w2 ⟨rfl, hA2, hg2⟩
    have hG2 := hG.trans hg2
    have hsz2 := hG2.size
    have ho2 := ho.kept hg2 (.inr (by intro e; have := (ho.lt rb e).1; omega))
    clear hA ho hg2 hG CO
    go_wp2_with (at_builtin; refine wpList_appR w2 rfl _ _ 67 rfl w.heap.size 112 (.agg #[.int .i64 0, .int .i64 0, .int .i64 0, .int .i64 0, .int .i64 0, .int .i64 0, .int .i64 0, .int .i64 0, .int .i64 0, .int .i64 0]) 10 80 Try.underlying67 info_tri rfl (by decide) _ _ _ (triC r.1) _ rfl (oneCells_tri r.1) ho2 rfl rfl ?_ ?_ ?_ ?_)
    · omega
    · omega
    · omega
    intro v' w' h1 h2
    have hA3 := hA2.grown h2.grown (fun j hj => by have := (ho2.lt j hj).1; omega)
    have hG3 := gb_app hG2 h2 (fun j hj => (ho2.lt j hj).1)
    clear ho2 hA2 hG2
    go_wp2
    go_roundw
    case rel => exact ⟨k, l ++ [r.1], r.2, by go_num, by simp; omega, by simpa using h1, hA3, hG3, HX⟩
    case measure => simp [intOf]

theorem info_box : (Try.prog.info? 114).map (fun i => (i.zero, i.size, i.bytes)) = some (some (.agg #[.int .i64 0, .int .i64 0, .int .i64 0, .int .i64 0, .int .i64 0, .int .i64 0, .int .i64 0, .int .i64 0]), 8, 64) := by kernel_rfl
theorem oneCells_box (t : Bx) : ∀ u ∈ bxC t, u.oneCell' = true := by
  intro u hu
  simp only [bxC, List.mem_cons, List.not_mem_nil, or_false] at hu
  rcases hu with rfl | rfl | rfl | rfl | rfl | rfl | rfl | rfl <;> rfl
set_option maxRecDepth 100000 in
set_option maxHeartbeats 4000000 in
theorem rrows_box (m : Nat) (hm : m ≤ 1000) (w : World) (rb : Nat) (a : Option Addr) (n c : Nat) (xs : List Int) (st : RS) (h : RdAt 123 (fun b => b) w rb a n c xs st) :
    Calls Try.prog 85 #[.pointer (some ⟨rb, 0, none⟩), .int .i64 m, .func (Fn.func 86) #[.pointer (some ⟨rb, 0, none⟩)] #[]] w fun e w' => ∃ v, e = .returned v ∧ w'.ownsRow w.heap.size 114 8 v (rdList xs m (rdBx xs) st).1.length ((rdList xs m (rdBx xs) st).1.flatMap bxC) ∧ RdAt 123 (fun b => b) w' rb a n c xs (rdList xs m (rdBx xs) st).2 ∧ w.grownBy w' (some rb) := by
  have hlt := h.lt
  have hN := rdUp_range (m := m) (st := st) (by omega) h.byte
  have UP := Lib.hid (rup_any m w rb a n c xs st h)
  have ON := Lib.hid (fun (W : World) (s : RS) (h : RdAt 123 (fun b => b) W rb a n c xs s) => by
    have := rbox_any W rb a n c xs s h
    unfold bxC at this
    exact this)
  clear h
  obtain ⟨V, HV⟩ : ∃ V, Hid (V = rdList xs m (rdBx xs) st) := ⟨_, rfl⟩
  rw [← HV.out]
  obtain ⟨⟨N, s0⟩, hN0⟩ : ∃ r, r = rdUp xs m st := ⟨_, rfl⟩
  rw [← hN0] at UP hN
  obtain ⟨N, rfl⟩ : ∃ k : Nat, N = (k : Int) := ⟨N.toNat, by simp only at hN; omega⟩
  have HV0 : Hid (V = rdRows (rdBx xs) N s0) := by show _ = _; rw [HV.out, rdList, ← hN0]; rfl
  simp only at hN
  have hNm : N ≤ m := by omega
  clear HV hN0 hN
  go_enter Try.func85, Try.ntmps85
  go_wp2_with fail
  refine UP.out.mono ?_
  rintro e w1 ⟨rfl, hA, hG⟩
  have hsz := hG.size
  go_wp2
  go_loopw [6, 7] (fun b i wr => ∃ (j : Nat) (l : List Bx) (s : RS), i = .int .i64 j ∧ l.length + j = N ∧ wr.ownsRow w.heap.size 114 8 b l.length (l.flatMap bxC) ∧ RdAt 123 (fun b => b) wr rb a n c xs s ∧ w.grownBy wr (some rb) ∧ Hid (V = (l ++ (rdRows (rdBx xs) j s).1, (rdRows (rdBx xs) j s).2))) (fun _ i _ => (intOf i).toNat)
  case atStart => exact ⟨N, [], s0, rfl, by simp, World.ownsRow_nil _ _ _ _, hA, hG, HV0.out⟩
  case round =>
  clear hA hG
  obtain ⟨j, l, ⟨s1, bad⟩, rfl, hl, ho, hA, hG, HW⟩ := hrel
  have hsz := hG.size
  have c2 := cell_heap (k := 2) (v := .bool bad) hA.blk rfl
  by_cases hj : j = 0
  · subst hj
    have HX : Hid (V = (l, (s1, bad))) := by show _ = _; rw [HW.out, rows_nil (.inl rfl)]; simp
    go_wp2
    go_ret
    rw [HX.out]
    exact ⟨_, rfl, ho, hA, hG⟩
  have hjI : (0 : Int) < (j : Int) := by omega
  cases bad with
  | true =>
    have HX : Hid (V = (l, (s1, true))) := by show _ = _; rw [HW.out, rows_nil (.inr rfl)]; simp
    go_wp2
    go_ret
    rw [HX.out]
    exact ⟨_, rfl, ho, hA, hG⟩
  | false =>
    obtain ⟨k, rfl⟩ : ∃ k, j = k + 1 := ⟨j - 1, by omega⟩
    obtain ⟨r, hr⟩ : ∃ r, Hid (r = rdBx xs (s1, false)) := ⟨_, rfl⟩
    have HX : Hid (V = ((l ++ [r.1]) ++ (rdRows (rdBx xs) k r.2).1, (rdRows (rdBx xs) k r.2).2)) := by show _ = _; rw [HW.out, rows_cons rfl, hr.out]; simp
    have CO := ON.out _ _ hA
    rw [← hr.out] at CO
    go_wp2_with fail
    refine CO.mono ?_
    rintro e w2 ⟨rfl, hA2, hg2⟩
    have hG2 := hG.trans hg2
    have hsz2 := hG2.size
    have ho2 := ho.kept hg2 (.inr (by intro e; have := (ho.lt rb e).1; omega))
    clear hA ho hg2 hG CO
    go_wp2_with (at_builtin; refine wpList_appR w2 rfl _ _ 68 rfl w.heap.size 114 (.agg #[.int .i64 0, .int .i64 0, .int .i64 0, .int .i64 0, .int .i64 0, .int .i64 0, .int .i64 0, .int .i64 0]) 8 64 Try.underlying68 info_box rfl (by decide) _ _ _ (bxC r.1) _ rfl (oneCells_box r.1) ho2 rfl rfl ?_ ?_ ?_ ?_)
    · omega
    · omega
    · omega
    intro v' w' h1 h2
    have hA3 := hA2.grown h2.grown (fun j hj => by have := (ho2.lt j hj).1; omega)
    have hG3 := gb_app hG2 h2 (fun j hj => (ho2.lt j hj).1)
    clear ho2 hA2 hG2
    go_wp2
    go_roundw
    case rel => exact ⟨k, l ++ [r.1], r.2, by go_num, by simp; omega, by simpa using h1, hA3, hG3, HX⟩
    case measure => simp [intOf]

theorem info_hop : (Try.prog.info? 118).map (fun i => (i.zero, i.size, i.bytes)) = some (some (.agg #[.int .i64 0, .int .i64 0, .int .i64 0, .int .i64 0, .int .i64 0, .int .i64 0, .int .i64 0, .bool false, .int .i64 0, .int .i64 0]), 10, 80) := by kernel_rfl
theorem oneCells_hop (t : Hp) : ∀ u ∈ hpC t, u.oneCell' = true := by
  intro u hu
  simp only [hpC, List.mem_cons, List.not_mem_nil, or_false] at hu
  rcases hu with rfl | rfl | rfl | rfl | rfl | rfl | rfl | rfl | rfl | rfl <;> rfl
set_option maxRecDepth 100000 in
set_option maxHeartbeats 4000000 in
theorem rrows_hop (m : Nat) (hm : m ≤ 1000) (w : World) (rb : Nat) (a : Option Addr) (n c : Nat) (xs : List Int) (st : RS) (h : RdAt 123 (fun b => b) w rb a n c xs st) :
    Calls Try.prog 87 #[.pointer (some ⟨rb, 0, none⟩), .int .i64 m, .func (Fn.func 88) #[.pointer (some ⟨rb, 0, none⟩)] #[]] w fun e w' => ∃ v, e = .returned v ∧ w'.ownsRow w.heap.size 118 10 v (rdList xs m (rdHp xs) st).1.length ((rdList xs m (rdHp xs) st).1.flatMap hpC) ∧ RdAt 123 (fun b => b) w' rb a n c xs (rdList xs m (rdHp xs) st).2 ∧ w.grownBy w' (some rb) := by
  have hlt := h.lt
  have hN := rdUp_range (m := m) (st := st) (by omega) h.byte
  have UP := Lib.hid (rup_any m w rb a n c xs st h)
  have ON := Lib.hid (fun (W : World) (s : RS) (h : RdAt 123 (fun b => b) W rb a n c xs s) => by
    have := rhop_any W rb a n c xs s h
    unfold hpC at this
    exact this)
  clear h
  obtain ⟨V, HV⟩ : ∃ V, Hid (V = rdList xs m (rdHp xs) st) := ⟨_, rfl⟩
  rw [← HV.out]
  obtain ⟨⟨N, s0⟩, hN0⟩ : ∃ r, r = rdUp xs m st := ⟨_, rfl⟩
  rw [← hN0] at UP hN
  obtain ⟨N, rfl⟩ : ∃ k : Nat, N = (k : Int) := ⟨N.toNat, by simp only at hN; omega⟩
  have HV0 : Hid (V = rdRows (rdHp xs) N s0) := by show _ = _; rw [HV.out, rdList, ← hN0]; rfl
  simp only at hN
  have hNm : N ≤ m := by omega
  clear HV hN0 hN
  go_enter Try.func87, Try.ntmps87
  go_wp2_with fail
  refine UP.out.mono ?_
  rintro e w1 ⟨rfl, hA, hG⟩
  have hsz := hG.size
  go_wp2
  go_loopw [6, 7] (fun b i wr => ∃ (j : Nat) (l : List Hp) (s : RS), i = .int .i64 j ∧ l.length + j = N ∧ wr.ownsRow w.heap.size 118 10 b l.length (l.flatMap hpC) ∧ RdAt 123 (fun b => b) wr rb a n c xs s ∧ w.grownBy wr (some rb) ∧ Hid (V = (l ++ (rdRows (rdHp xs) j s).1, (rdRows (rdHp xs) j s).2))) (fun _ i _ => (intOf i).toNat)
  case atStart => exact ⟨N, [], s0, rfl, by simp, World.ownsRow_nil _ _ _ _, hA, hG, HV0.out⟩
  case round =>
  clear hA hG
  obtain ⟨j, l, ⟨s1, bad⟩, rfl, hl, ho, hA, hG, HW⟩ := hrel
  have hsz := hG.size
  have c2 := cell_heap (k := 2) (v := .bool bad) hA.blk rfl
  by_cases hj : j = 0
  · subst hj
    have HX : Hid (V = (l, (s1, bad))) := by show _ = _; rw [HW.out, rows_nil (.inl rfl)]; simp
    go_wp2
    go_ret
    rw [HX.out]
    exact ⟨_, rfl, ho, hA, hG⟩
  have hjI : (0 : Int) < (j : Int) := by omega
  cases bad with
  | true =>
    have HX : Hid (V = (l, (s1, true))) := by show _ = _; rw [HW.out, rows_nil (.inr rfl)]; simp
    go_wp2
    go_ret
    rw [HX.out]
    exact ⟨_, rfl, ho, hA, hG⟩
  | false =>
    obtain ⟨k, rfl⟩ : ∃ k, j = k + 1 := ⟨j - 1, by omega⟩
    obtain ⟨r, hr⟩ : ∃ r, Hid (r = rdHp xs (s1, false)) := ⟨_, rfl⟩
    have HX : Hid (V = ((l ++ [r.1]) ++ (rdRows (rdHp xs) k r.2).1, (rdRows (rdHp xs) k r.2).2)) := by show _ = _; rw [HW.out, rows_cons rfl, hr.out]; simp
    have CO := ON.out _ _ hA
    rw [← hr.out] at CO
    go_wp2_with fail
    refine CO.mono ?_
    rintro e w2 ⟨rfl, hA2, hg2⟩
    have hG2 := hG.trans hg2
    have hsz2 := hG2.size
    have ho2 := ho.kept hg2 (.inr (by intro e; have := (ho.lt rb e).1; omega))
    clear hA ho hg2 hG CO
    go_wp2_with (at_builtin; refine wpList_appR w2 rfl _ _ 69 rfl w.heap.size 118 (.agg #[.int .i64 0, .int .i64 0, .int .i64 0, .int .i64 0, .int .i64 0, .int .i64 0, .int .i64 0, .bool false, .int .i64 0, .int .i64 0]) 10 80 Try.underlying69 info_hop rfl (by decide) _ _ _ (hpC r.1) _ rfl (oneCells_hop r.1) ho2 rfl rfl ?_ ?_ ?_ ?_)
    · omega
    · omega
    · omega
    intro v' w' h1 h2
    have hA3 := hA2.grown h2.grown (fun j hj => by have := (ho2.lt j hj).1; omega)
    have hG3 := gb_app hG2 h2 (fun j hj => (ho2.lt j hj).1)
    clear ho2 hA2 hG2
    go_wp2
    go_roundw
    case rel => exact ⟨k, l ++ [r.1], r.2, by go_num, by simp; omega, by simpa using h1, hA3, hG3, HX⟩
    case measure => simp [intOf]

end Go.Proofs.Ytilhmlapbifbbaa
