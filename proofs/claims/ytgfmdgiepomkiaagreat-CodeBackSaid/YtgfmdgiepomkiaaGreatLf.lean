/- Walks: rows of triangles, boxes, hops are read. -/
import Derived.Test.YtgfmdgiepomkiaaGreatLe
namespace Go.Proofs.YtgfmdgiepomkiaaGreat
open Go.RowKit Go.Sort

/-- 'append(out, x)': out is one's own row of records, x lies in a block of its own (the model builds it so). -/
theorem wpList_appK {P : Program} (w : World) {ops : Array Oper} {rest : List Oper} {o : Oper} {a : Act} {Q : Exit → Act → World → Prop}
  (hgd : o.guard = none) (s x : Operand) (t : TypeId) (hop : o.op = Op.call { callee := Callee.builtin Builtin.append, args := #[s, x], argTypes := #[t, t] })
  (base : Nat) (e : TypeId) (z : Value) (size bytes : Nat) (ht : P.underlying t = some (.slice e)) (hi : (P.info? e).map (fun i => (i.zero, i.size, i.bytes)) = some (some z, size, bytes)) (hzs : z.cells.size = size) (hsz : 0 < size)
  (v : Value) (n : Nat) (xs y : List Value) (e' : TypeId) (hy : y.length = size) (h1 : ∀ u ∈ y, u.oneCell' = true) (hown : w.ownsRow base e size v n xs) (hs : a.eval s = v)
  (hx : a.eval x = .slice (some ⟨w.heap.size, 0, none⟩) 1 1)
  (h63 : n + 1 ≤ 9223372036854775807) (hbytes : (n + 1) * bytes ≤ 140737488355328) (hbase : base ≤ w.heap.size)
  (hK : ∀ v' w', w'.ownsRow base e size v' (n + 1) (xs ++ y) → Appd w w' v v' → wpList P ops Q rest (a.put o.dst v') w') :
  wpList P ops Q (o :: rest) a (w.alloc (.cells y.toArray e')) := by
 obtain ⟨i, hi, hz0, hz1, hz2⟩ := info_parts hi
 refine wpList_app (w.alloc (.cells y.toArray e')) hgd s x t hop base e i z size bytes ht hi hz0 hz1 hz2 hzs hsz v n xs hs (hown.alloc _) ⟨w.heap.size, 0, none⟩ 1 1 y hx (by decide) (by omega) ?_ h1 (by unfold maxLen; omega) hbytes (by simp; omega) ?_
 ·
  intro j u hu
  rw [Addr.add_lit, Nat.zero_add]
  exact cell_heap (k := j) (v := u) (World.alloc_heap_new w (.cells y.toArray e')) (by simpa using hu)
 ·
  intro v' w' h1 h2
  exact hK v' w' h1 (Appd.trans (Appd.alloc (Appd.refl w v) _) h2)
theorem gb_app {w0 w w' : World} {v v' : Value} {row : Option Nat} (h : w0.grownBy w row) (hp : Appd w w' v v') (hv : ∀ j, v.ownBlock = some j → w0.heap.size ≤ j) : w0.grownBy w' row :=
 World.grownBy.andThen h hp.grown (fun j hj => .inl (hv j hj))
theorem info_tri : (Tryz.prog.info? 62).map (fun i => (i.zero, i.size, i.bytes)) = some (some (.agg #[.int .i64 0, .int .i64 0, .int .i64 0, .int .i64 0, .int .i64 0, .int .i64 0, .int .i64 0, .int .i64 0, .int .i64 0, .int .i64 0]), 10, 80) := by kernel_rfl
theorem oneCells_tri (t : Tri3) : ∀ u ∈ triC t, u.oneCell' = true := by
 intro u hu
 simp only [triC, List.mem_cons, List.not_mem_nil, or_false] at hu
 rcases hu with rfl | rfl | rfl | rfl | rfl | rfl | rfl | rfl | rfl | rfl <;> rfl
set_option maxRecDepth 100000 in
set_option maxHeartbeats 4000000 in
theorem rrows_tri (m : Nat) (hm : m ≤ 1000) (w : World) (rb : Nat) (a : Option Addr) (n c : Nat) (xs : List Int) (st : RS) (h : RdAt 73 (fun b => b) w rb a n c xs st) :
  Calls Tryz.prog 23 #[.pointer (some ⟨rb, 0, none⟩), .int .i64 m, .func (Fn.func 24) #[.pointer (some ⟨rb, 0, none⟩)] #[]] w fun e w' => ∃ v, e = .returned v ∧ w'.ownsRow w.heap.size 62 10 v (rdList xs m (rdTri xs) st).1.length ((rdList xs m (rdTri xs) st).1.flatMap triC) ∧ RdAt 73 (fun b => b) w' rb a n c xs (rdList xs m (rdTri xs) st).2 ∧ w.grownBy w' (some rb) := by
 have hlt := h.lt
 have hN := rdUp_range (m := m) (st := st) (by omega) h.byte
 have UP := Lib.hid (rup_any m w rb a n c xs st h)
 have ON := Lib.hid (fun (W : World) (s : RS) (h : RdAt 73 (fun b => b) W rb a n c xs s) => by
  have := rtri_any W rb a n c xs s h
  unfold triC at this
  exact this)
 clear h
 obtain ⟨V, HV⟩ : ∃ V, Hid (V = rdList xs m (rdTri xs) st) := ⟨_, rfl⟩
 rw [← HV.out]
 obtain ⟨⟨N, s0⟩, hN0⟩ : ∃ r, r = rdUp xs m st := ⟨_, rfl⟩
 rw [← hN0] at UP hN
 obtain ⟨N, rfl⟩ : ∃ k : Nat, N = (k : Int) := ⟨N.toNat, by simp only at hN; omega⟩
 have HV0 : Hid (V = rdRows (rdTri xs) N s0) := by show _ = _; rw [HV.out, rdList, ← hN0]; rfl
 simp only at hN
 have hNm : N ≤ m := by omega
 clear HV hN0 hN
 go_enter Tryz.func23, Tryz.ntmps23
 go_wp2_with fail
 refine UP.out.mono ?_
 rintro e w1 ⟨rfl, hA, hG⟩
 have hsz := hG.size
 go_wp2
 go_loopw [6, 7] (fun b i wr => ∃ (j : Nat) (l : List Tri3) (s : RS), i = .int .i64 j ∧ l.length + j = N ∧ wr.ownsRow w.heap.size 62 10 b l.length (l.flatMap triC) ∧ RdAt 73 (fun b => b) wr rb a n c xs s ∧ w.grownBy wr (some rb) ∧ Hid (V = (l ++ (rdRows (rdTri xs) j s).1, (rdRows (rdTri xs) j s).2))) (fun _ i _ => (intOf i).toNat)
 case atStart => exact ⟨N, [], s0, rfl, by simp, World.ownsRow_nil _ _ _ _, hA, hG, HV0.out⟩
 case round =>
 clear hA hG
 obtain ⟨j, l, ⟨s1, bad⟩, rfl, hl, ho, hA, hG, HW⟩ := hrel
 have hsz := hG.size
 have c2 := cell_heap (k := 2) (v := .bool bad) hA.blk rfl
 by_cases hj : j = 0
 ·
  subst hj
  have HX : Hid (V = (l, (s1, bad))) := by show _ = _; rw [HW.out, rows_nil (.inl rfl)]; simp
  go_wp2
  go_ret
  rw [HX.out]
  exact ⟨_, rfl, ho, hA, hG⟩
 have hjI : (0 : Int) < (j : Int) := by omega
 cases bad with
 | true =>
  have HX : Hid (V = (l, (s1, true))) := by show _ = _; rw [HW.out, rows_nil (.inr rfl)]; simp
  go_wp2
  go_ret
  rw [HX.out]
  exact ⟨_, rfl, ho, hA, hG⟩
 | false =>
  obtain ⟨k, rfl⟩ : ∃ k, j = k + 1 := ⟨j - 1, by omega⟩
  obtain ⟨r, hr⟩ : ∃ r, Hid (r = rdTri xs (s1, false)) := ⟨_, rfl⟩
  have HX : Hid (V = ((l ++ [r.1]) ++ (rdRows (rdTri xs) k r.2).1, (rdRows (rdTri xs) k r.2).2)) := by show _ = _; rw [HW.out, rows_cons rfl, hr.out]; simp
  have CO := ON.out _ _ hA
  rw [← hr.out] at CO
  go_wp2_with fail
  refine CO.mono ?_
  rintro e w2 ⟨rfl, hA2, hg2⟩
  have hG2 := hG.trans hg2
  have hsz2 := hG2.size
  have ho2 := ho.kept hg2 (.inr (by intro e; have := (ho.lt rb e).1; omega))
  clear hA ho hg2 hG CO
  go_wp2_with (at_builtin; refine wpList_appK w2 rfl _ _ 24 rfl w.heap.size 62 (.agg #[.int .i64 0, .int .i64 0, .int .i64 0, .int .i64 0, .int .i64 0, .int .i64 0, .int .i64 0, .int .i64 0, .int .i64 0, .int .i64 0]) 10 80 Tryz.underlying24 info_tri rfl (by decide) _ _ _ (triC r.1) _ rfl (oneCells_tri r.1) ho2 rfl rfl ?_ ?_ ?_ ?_)
  ·
   omega
  ·
   omega
  ·
   omega
  intro v' w' h1 h2
  have hA3 := hA2.grown h2.grown (fun j hj => by have := (ho2.lt j hj).1; omega)
  have hG3 := gb_app hG2 h2 (fun j hj => (ho2.lt j hj).1)
  clear ho2 hA2 hG2
  go_wp2
  go_roundw
  case rel => exact ⟨k, l ++ [r.1], r.2, by go_num, by simp; omega, by simpa using h1, hA3, hG3, HX⟩
  case measure => simp [intOf]

theorem info_box : (Tryz.prog.info? 65).map (fun i => (i.zero, i.size, i.bytes)) = some (some (.agg #[.int .i64 0, .int .i64 0, .int .i64 0, .int .i64 0, .int .i64 0, .int .i64 0, .int .i64 0, .int .i64 0]), 8, 64) := by kernel_rfl
theorem oneCells_box (t : Bx) : ∀ u ∈ bxC t, u.oneCell' = true := by
 intro u hu
 simp only [bxC, List.mem_cons, List.not_mem_nil, or_false] at hu
 rcases hu with rfl | rfl | rfl | rfl | rfl | rfl | rfl | rfl <;> rfl
set_option maxRecDepth 100000 in
set_option maxHeartbeats 4000000 in
theorem rrows_box (m : Nat) (hm : m ≤ 1000) (w : World) (rb : Nat) (a : Option Addr) (n c : Nat) (xs : List Int) (st : RS) (h : RdAt 73 (fun b => b) w rb a n c xs st) :
  Calls Tryz.prog 25 #[.pointer (some ⟨rb, 0, none⟩), .int .i64 m, .func (Fn.func 26) #[.pointer (some ⟨rb, 0, none⟩)] #[]] w fun e w' => ∃ v, e = .returned v ∧ w'.ownsRow w.heap.size 65 8 v (rdList xs m (rdBx xs) st).1.length ((rdList xs m (rdBx xs) st).1.flatMap bxC) ∧ RdAt 73 (fun b => b) w' rb a n c xs (rdList xs m (rdBx xs) st).2 ∧ w.grownBy w' (some rb) := by
 have hlt := h.lt
 have hN := rdUp_range (m := m) (st := st) (by omega) h.byte
 have UP := Lib.hid (rup_any m w rb a n c xs st h)
 have ON := Lib.hid (fun (W : World) (s : RS) (h : RdAt 73 (fun b => b) W rb a n c xs s) => by
  have := rbox_any W rb a n c xs s h
  unfold bxC at this
  exact this)
 clear h
 obtain ⟨V, HV⟩ : ∃ V, Hid (V = rdList xs m (rdBx xs) st) := ⟨_, rfl⟩
 rw [← HV.out]
 obtain ⟨⟨N, s0⟩, hN0⟩ : ∃ r, r = rdUp xs m st := ⟨_, rfl⟩
 rw [← hN0] at UP hN
 obtain ⟨N, rfl⟩ : ∃ k : Nat, N = (k : Int) := ⟨N.toNat, by simp only at hN; omega⟩
 have HV0 : Hid (V = rdRows (rdBx xs) N s0) := by show _ = _; rw [HV.out, rdList, ← hN0]; rfl
 simp only at hN
 have hNm : N ≤ m := by omega
 clear HV hN0 hN
 go_enter Tryz.func25, Tryz.ntmps25
 go_wp2_with fail
 refine UP.out.mono ?_
 rintro e w1 ⟨rfl, hA, hG⟩
 have hsz := hG.size
 go_wp2
 go_loopw [6, 7] (fun b i wr => ∃ (j : Nat) (l : List Bx) (s : RS), i = .int .i64 j ∧ l.length + j = N ∧ wr.ownsRow w.heap.size 65 8 b l.length (l.flatMap bxC) ∧ RdAt 73 (fun b => b) wr rb a n c xs s ∧ w.grownBy wr (some rb) ∧ Hid (V = (l ++ (rdRows (rdBx xs) j s).1, (rdRows (rdBx xs) j s).2))) (fun _ i _ => (intOf i).toNat)
 case atStart => exact ⟨N, [], s0, rfl, by simp, World.ownsRow_nil _ _ _ _, hA, hG, HV0.out⟩
 case round =>
 clear hA hG
 obtain ⟨j, l, ⟨s1, bad⟩, rfl, hl, ho, hA, hG, HW⟩ := hrel
 have hsz := hG.size
 have c2 := cell_heap (k := 2) (v := .bool bad) hA.blk rfl
 by_cases hj : j = 0
 ·
  subst hj
  have HX : Hid (V = (l, (s1, bad))) := by show _ = _; rw [HW.out, rows_nil (.inl rfl)]; simp
  go_wp2
  go_ret
  rw [HX.out]
  exact ⟨_, rfl, ho, hA, hG⟩
 have hjI : (0 : Int) < (j : Int) := by omega
 cases bad with
 | true =>
  have HX : Hid (V = (l, (s1, true))) := by show _ = _; rw [HW.out, rows_nil (.inr rfl)]; simp
  go_wp2
  go_ret
  rw [HX.out]
  exact ⟨_, rfl, ho, hA, hG⟩
 | false =>
  obtain ⟨k, rfl⟩ : ∃ k, j = k + 1 := ⟨j - 1, by omega⟩
  obtain ⟨r, hr⟩ : ∃ r, Hid (r = rdBx xs (s1, false)) := ⟨_, rfl⟩
  have HX : Hid (V = ((l ++ [r.1]) ++ (rdRows (rdBx xs) k r.2).1, (rdRows (rdBx xs) k r.2).2)) := by show _ = _; rw [HW.out, rows_cons rfl, hr.out]; simp
  have CO := ON.out _ _ hA
  rw [← hr.out] at CO
  go_wp2_with fail
  refine CO.mono ?_
  rintro e w2 ⟨rfl, hA2, hg2⟩
  have hG2 := hG.trans hg2
  have hsz2 := hG2.size
  have ho2 := ho.kept hg2 (.inr (by intro e; have := (ho.lt rb e).1; omega))
  clear hA ho hg2 hG CO
  go_wp2_with (at_builtin; refine wpList_appK w2 rfl _ _ 25 rfl w.heap.size 65 (.agg #[.int .i64 0, .int .i64 0, .int .i64 0, .int .i64 0, .int .i64 0, .int .i64 0, .int .i64 0, .int .i64 0]) 8 64 Tryz.underlying25 info_box rfl (by decide) _ _ _ (bxC r.1) _ rfl (oneCells_box r.1) ho2 rfl rfl ?_ ?_ ?_ ?_)
  ·
   omega
  ·
   omega
  ·
   omega
  intro v' w' h1 h2
  have hA3 := hA2.grown h2.grown (fun j hj => by have := (ho2.lt j hj).1; omega)
  have hG3 := gb_app hG2 h2 (fun j hj => (ho2.lt j hj).1)
  clear ho2 hA2 hG2
  go_wp2
  go_roundw
  case rel => exact ⟨k, l ++ [r.1], r.2, by go_num, by simp; omega, by simpa using h1, hA3, hG3, HX⟩
  case measure => simp [intOf]

theorem info_hop : (Tryz.prog.info? 69).map (fun i => (i.zero, i.size, i.bytes)) = some (some (.agg #[.int .i64 0, .int .i64 0, .int .i64 0, .int .i64 0, .int .i64 0, .int .i64 0, .int .i64 0, .bool false, .int .i64 0, .int .i64 0]), 10, 80) := by kernel_rfl
theorem oneCells_hop (t : Hp) : ∀ u ∈ hpC t, u.oneCell' = true := by
 intro u hu
 simp only [hpC, List.mem_cons, List.not_mem_nil, or_false] at hu
 rcases hu with rfl | rfl | rfl | rfl | rfl | rfl | rfl | rfl | rfl | rfl <;> rfl
set_option maxRecDepth 100000 in
set_option maxHeartbeats 4000000 in
theorem rrows_hop (m : Nat) (hm : m ≤ 1000) (w : World) (rb : Nat) (a : Option Addr) (n c : Nat) (xs : List Int) (st : RS) (h : RdAt 73 (fun b => b) w rb a n c xs st) :
  Calls Tryz.prog 27 #[.pointer (some ⟨rb, 0, none⟩), .int .i64 m, .func (Fn.func 28) #[.pointer (some ⟨rb, 0, none⟩)] #[]] w fun e w' => ∃ v, e = .returned v ∧ w'.ownsRow w.heap.size 69 10 v (rdList xs m (rdHp xs) st).1.length ((rdList xs m (rdHp xs) st).1.flatMap hpC) ∧ RdAt 73 (fun b => b) w' rb a n c xs (rdList xs m (rdHp xs) st).2 ∧ w.grownBy w' (some rb) := by
 have hlt := h.lt
 have hN := rdUp_range (m := m) (st := st) (by omega) h.byte
 have UP := Lib.hid (rup_any m w rb a n c xs st h)
 have ON := Lib.hid (fun (W : World) (s : RS) (h : RdAt 73 (fun b => b) W rb a n c xs s) => by
  have := rhop_any W rb a n c xs s h
  unfold hpC at this
  exact this)
 clear h
 obtain ⟨V, HV⟩ : ∃ V, Hid (V = rdList xs m (rdHp xs) st) := ⟨_, rfl⟩
 rw [← HV.out]
 obtain ⟨⟨N, s0⟩, hN0⟩ : ∃ r, r = rdUp xs m st := ⟨_, rfl⟩
 rw [← hN0] at UP hN
 obtain ⟨N, rfl⟩ : ∃ k : Nat, N = (k : Int) := ⟨N.toNat, by simp only at hN; omega⟩
 have HV0 : Hid (V = rdRows (rdHp xs) N s0) := by show _ = _; rw [HV.out, rdList, ← hN0]; rfl
 simp only at hN
 have hNm : N ≤ m := by omega
 clear HV hN0 hN
 go_enter Tryz.func27, Tryz.ntmps27
 go_wp2_with fail
 refine UP.out.mono ?_
 rintro e w1 ⟨rfl, hA, hG⟩
 have hsz := hG.size
 go_wp2
 go_loopw [6, 7] (fun b i wr => ∃ (j : Nat) (l : List Hp) (s : RS), i = .int .i64 j ∧ l.length + j = N ∧ wr.ownsRow w.heap.size 69 10 b l.length (l.flatMap hpC) ∧ RdAt 73 (fun b => b) wr rb a n c xs s ∧ w.grownBy wr (some rb) ∧ Hid (V = (l ++ (rdRows (rdHp xs) j s).1, (rdRows (rdHp xs) j s).2))) (fun _ i _ => (intOf i).toNat)
 case atStart => exact ⟨N, [], s0, rfl, by simp, World.ownsRow_nil _ _ _ _, hA, hG, HV0.out⟩
 case round =>
 clear hA hG
 obtain ⟨j, l, ⟨s1, bad⟩, rfl, hl, ho, hA, hG, HW⟩ := hrel
 have hsz := hG.size
 have c2 := cell_heap (k := 2) (v := .bool bad) hA.blk rfl
 by_cases hj : j = 0
 ·
  subst hj
  have HX : Hid (V = (l, (s1, bad))) := by show _ = _; rw [HW.out, rows_nil (.inl rfl)]; simp
  go_wp2
  go_ret
  rw [HX.out]
  exact ⟨_, rfl, ho, hA, hG⟩
 have hjI : (0 : Int) < (j : Int) := by omega
 cases bad with
 | true =>
  have HX : Hid (V = (l, (s1, true))) := by show _ = _; rw [HW.out, rows_nil (.inr rfl)]; simp
  go_wp2
  go_ret
  rw [HX.out]
  exact ⟨_, rfl, ho, hA, hG⟩
 | false =>
  obtain ⟨k, rfl⟩ : ∃ k, j = k + 1 := ⟨j - 1, by omega⟩
  obtain ⟨r, hr⟩ : ∃ r, Hid (r = rdHp xs (s1, false)) := ⟨_, rfl⟩
  have HX : Hid (V = ((l ++ [r.1]) ++ (rdRows (rdHp xs) k r.2).1, (rdRows (rdHp xs) k r.2).2)) := by show _ = _; rw [HW.out, rows_cons rfl, hr.out]; simp
  have CO := ON.out _ _ hA
  rw [← hr.out] at CO
  go_wp2_with fail
  refine CO.mono ?_
  rintro e w2 ⟨rfl, hA2, hg2⟩
  have hG2 := hG.trans hg2
  have hsz2 := hG2.size
  have ho2 := ho.kept hg2 (.inr (by intro e; have := (ho.lt rb e).1; omega))
  clear hA ho hg2 hG CO
  go_wp2_with (at_builtin; refine wpList_appK w2 rfl _ _ 26 rfl w.heap.size 69 (.agg #[.int .i64 0, .int .i64 0, .int .i64 0, .int .i64 0, .int .i64 0, .int .i64 0, .int .i64 0, .bool false, .int .i64 0, .int .i64 0]) 10 80 Tryz.underlying26 info_hop rfl (by decide) _ _ _ (hpC r.1) _ rfl (oneCells_hop r.1) ho2 rfl rfl ?_ ?_ ?_ ?_)
  ·
   omega
  ·
   omega
  ·
   omega
  intro v' w' h1 h2
  have hA3 := hA2.grown h2.grown (fun j hj => by have := (ho2.lt j hj).1; omega)
  have hG3 := gb_app hG2 h2 (fun j hj => (ho2.lt j hj).1)
  clear ho2 hA2 hG2
  go_wp2
  go_roundw
  case rel => exact ⟨k, l ++ [r.1], r.2, by go_num, by simp; omega, by simpa using h1, hA3, hG3, HX⟩
  case measure => simp [intOf]

end Go.Proofs.YtgfmdgiepomkiaaGreat

namespace Go.Proofs.YtgfmdgiepomkiaaGreat
open Go.RowKit Go.Sort

theorem results_cct {P : Program} {fn : Func} {p q u v : Tmp} {ty ty' : TypeId} (h : fn.results = #[.cell p ty, .cell q ty', .tmp u, .tmp v]) (tmps : Array Value) (w : World) (g : Nat) (t : TypeId) (cs : Array Value) (fr : Nat × Nat) (d : TypeDesc)
  (g' : Nat) (t' : TypeId) (cs' : Array Value) (fr' : Nat × Nat) (d' : TypeDesc)
  (hp : tmps.getD p undef = .pointer (some ⟨g, 0, none⟩)) (hg : w.heap[g]? = some (.cells cs t fr))
  (hu : P.underlying ty = some d) (hd : (match d with | .struct _ | .array _ _ => true | _ => false) = true) (hi : (P.info? ty).map (·.size) = some cs.size)
  (hp' : tmps.getD q undef = .pointer (some ⟨g', 0, none⟩)) (hg' : w.heap[g']? = some (.cells cs' t' fr'))
  (hu' : P.underlying ty' = some d') (hd' : (match d' with | .struct _ | .array _ _ => true | _ => false) = true) (hi' : (P.info? ty').map (·.size) = some cs'.size) :
  (results fn tmps).run P w = .ok (.tuple #[.agg cs, .agg cs', tmps.getD u undef, tmps.getD v undef]) w := by
 have e1 : tmps[p]?.getD undef = .pointer (some ⟨g, 0, none⟩) := by simpa using hp
 have e2 : tmps[q]?.getD undef = .pointer (some ⟨g', 0, none⟩) := by simpa using hp'
 simp [results, h, e1, e2, asAddr, run_loadVar_row w g t ty cs fr d hg hu hd hi, run_loadVar_row w g' t' ty' cs' fr' d' hg' hu' hd' hi', Sem.run_bind, Result.andThen]
/-- A row of one's own reads as what it holds. -/
theorem SlR.of_owns {α : Type} {f : α → List Value} {sz : Nat} {w : World} {B : Nat} {e : TypeId} {v : Value} {n : Nat} {xs : List α} (hf : ∀ x, (f x).length = sz) (hn : n = xs.length) (h : w.ownsRow B e sz v n (xs.flatMap f)) :
  ∃ a c, v = .slice a n c ∧ SlR f sz w a n c xs := by
 subst hn
 rcases h.2 with ⟨rfl, h0⟩ | ⟨g, cap, cur, rfl, hB, hg, hle, hm, hsz', ht⟩
 ·
  refine ⟨none, 0, by rw [h0], ⟨rfl, by omega, by omega, .inl h0⟩⟩
 ·
  refine ⟨some ⟨g, 0, none⟩, cap, rfl, ⟨rfl, hle, by simpa [maxLen] using hm, .inr ⟨g, 0, rfl, (Array.getElem?_eq_some_iff.1 hg).1, fun i x hx j u hu => ?_⟩⟩⟩
  have hc := h.cells (g := g) rfl (i * sz + j) u (by
   have : ∀ (l : List α) (i : Nat), l[i]? = some x → (l.flatMap f)[i * sz + j]? = some u := by
    intro l
    induction l with
    | nil => intro i h; simp at h
    | cons y l ih =>
     intro i hi
     rw [List.flatMap_cons]
     cases i with
     | zero =>
      simp at hi
      subst hi
      rw [Nat.zero_mul, Nat.zero_add, List.getElem?_append_left (List.getElem?_eq_some_iff.1 hu).1]
      exact hu
     | succ i =>
      rw [List.getElem?_append_right (by rw [hf, Nat.succ_mul]; omega), hf, show (i + 1) * sz + j - sz = i * sz + j by rw [Nat.succ_mul]; omega]
      exact ih i (by simpa using hi)
   exact this xs i hx)
  rw [Addr.add_lit] at hc
  simpa [Nat.add_assoc] using hc

/-- A block that is not the one that turns stays. -/
theorem blk_other {w w' : World} {rb b : Nat} {u : Obj} (hg : w.grownBy w' (some rb)) (hb : w.heap[b]? = some u) (hne : b ≠ rb) : w'.heap[b]? = some u := (hg.block b (Array.getElem?_eq_some_iff.1 hb).1 (by intro e; cases e; exact hne rfl)).trans hb
theorem rd_at {w : World} (o : Obj) {i : Nat} (hi : w.heap.size = i) : (w.alloc o).heap[i]? = some o := by subst hi; exact World.alloc_heap_new _ _
theorem rd_past {w : World} (o : Obj) {i : Nat} {u : Obj} (h : w.heap[i]? = some u) : (w.alloc o).heap[i]? = some u := (Below.heap_alloc _ _ i (Array.getElem?_eq_some_iff.1 h).1).trans h
theorem heap_same1 {w : World} {b i : Nat} {cs : Array Value} {t : TypeId} {v : Value} (h : w.heap[b]? = some (.cells cs t (0, 0))) (hv : cs[i]? = some v) : (w.setCell ⟨b, i, none⟩ v).heap[b]? = some (.cells cs t (0, 0)) := by
 have := heap_setCell_same w b i cs t v h
 have e : cs.setIfInBounds i v = cs := by
  obtain ⟨hi, hv⟩ := Array.getElem?_eq_some_iff.1 hv
  subst hv
  simp [Array.setIfInBounds, hi]
 rwa [e] at this
theorem dr_heap {w : World} {b : Nat} {u : Option Obj} (h : w.heap[b]? = u) : w.drew.heap[b]? = u := h
theorem dr_slr {α : Type} {f : α → List Value} {sz : Nat} {w : World} {B : Nat} {e : TypeId} {a : Option Addr} {n c : Nat} {xs : List α} (hf : ∀ x, (f x).length = sz) (hn : n = xs.length) (h : w.ownsRow B e sz (.slice a n c) n (xs.flatMap f)) : SlR f sz w.drew a n c xs := by
 obtain ⟨x1, x2, h1, h2⟩ := SlR.of_owns hf hn h
 cases h1
 exact h2.drewN 1
theorem dr_cell {w : World} {p : Addr} {v : Value} (h : w.cell? p = some v) : w.drew.cell? p = some v := h
theorem cell_set_far {w : World} {b i b' j : Nat} {u v : Value} (h : w.cell? ⟨b', j, none⟩ = some u) (hne : b ≠ b') : (w.setCell ⟨b, i, none⟩ v).cell? ⟨b', j, none⟩ = some u := (World.cell?_setCell_far w ⟨b, i, none⟩ ⟨b', j, none⟩ v hne).trans h
theorem heap_set_far {w : World} {b b' i : Nat} {u : Obj} {v : Value} (hb : w.heap[b]? = some u) (hne : b ≠ b') : (w.setCell ⟨b', i, none⟩ v).heap[b]? = some u := (heap_setCell_other w _ b v hne).trans hb
theorem RdAt.setFar {T : TypeId} {f : Bool → Bool} {w : World} {rb : Nat} {a : Option Addr} {n c : Nat} {xs : List Int} {st : RS} (h : RdAt T f w rb a n c xs st) {b : Nat} (hb : b ≠ rb) (hfar : n = 0 ∨ ∀ ad, a = some ad → ad.block < b) (i : Nat) (v : Value) : RdAt T f (w.setCell ⟨b, i, none⟩ v) rb a n c xs st :=
 ⟨heap_set_far h.blk (fun e => hb e.symm), h.sl.grown' (grownBy_setCell w b i v) (hfar.imp id fun q ad ha e => by have := q ad ha; cases e; omega), h.le, h.ne, h.small, h.byte⟩
theorem gn_call {w W W' : World} {rb : Nat} (h : w.grownBy W none) (hg : W.grownBy W' (some rb)) (hr : w.heap.size ≤ rb) : w.grownBy W' none := World.grownBy.andThen h hg (fun j hj => by cases hj; exact .inl hr)
theorem gn_below {w W : World} (h : w.grownBy W none) : Below w.heap.size w W := ⟨h.os, h.tape, h.output, h.size, fun i hi => h.block i hi (by simp)⟩
theorem owns_set {w : World} {B : Nat} {e : TypeId} {sz n : Nat} {v : Value} {xs : List Value} (h : w.ownsRow B e sz v n xs) {b : Nat} (hb : b < B) (i : Nat) (u : Value) : (w.setCell ⟨b, i, none⟩ u).ownsRow B e sz v n xs :=
 h.kept (grownBy_setCell w b i u) (by
  by_cases hv : v.ownBlock = none
  ·
   exact .inl hv
  ·
   refine .inr (fun e => ?_)
   have := (h.lt b e).1
   omega)
theorem owns_call {w w' : World} {B rb : Nat} {e : TypeId} {sz n : Nat} {v : Value} {xs : List Value} (h : w.ownsRow B e sz v n xs) (hg : w.grownBy w' (some rb)) (hb : rb < B) : w'.ownsRow B e sz v n xs :=
 h.kept hg (.inr (fun e => by have := (h.lt rb e).1; omega))
def rdPost (w : World) (R : Cfg × Sou × Int × Int) (e : Ending) (w' : World) : Prop :=
 ∃ p q r, e = .returned (.tuple #[cfgV R.1, soupV p q r, .int .i64 R.2.2.1, .int .i64 R.2.2.2]) ∧ SoupAt w' p q r R.2.1 ∧ Below w.heap.size w w'


set_option maxRecDepth 100000 in
set_option maxHeartbeats 8000000 in
theorem readsoup_any (w : World) (a : Option Addr) (n c : Nat) (xs : List Int) (hx : SlI .u8 w a n c xs) (hb : ∀ x ∈ xs, 0 ≤ x ∧ x ≤ 255) (hfar : n = 0 ∨ ∀ ad, a = some ad → ad.block < w.heap.size) :
  Calls Tryz.prog 8 #[.slice a n c] w (rdPost w (rdSoup xs)) := by
 have hlen := hx.len
 have hle := hx.le
 have hmax := hx.max
 obtain ⟨V, HV⟩ : ∃ V, Hid (V = rdSoup xs) := ⟨_, rfl⟩
 rw [← HV.out]
 by_cases hn : 131072 < n
 ·
  skip
  have HW : Hid (V = (cfg0, sou0, 0, 3)) := by show _ = _; rw [HV.out, rdSoup, if_pos (by omega)]
  have hI : (131072 : Int) < (n : Int) := by omega
  clear HV hn
  have hC := (Below.heap_alloc (w.alloc (.cells #[.int .i64 0, .int .i64 0, .int .i64 0, .int .i64 0, .int .i64 0, .int .i64 0, .int .i64 0] 23)) (.cells #[.slice none 0 0, .slice none 0 0, .slice none 0 0] 28) w.heap.size (by simp)).trans (World.alloc_heap_new w (.cells #[.int .i64 0, .int .i64 0, .int .i64 0, .int .i64 0, .int .i64 0, .int .i64 0, .int .i64 0] 23))
  have hS : ((w.alloc (.cells #[.int .i64 0, .int .i64 0, .int .i64 0, .int .i64 0, .int .i64 0, .int .i64 0, .int .i64 0] 23)).alloc (.cells #[.slice none 0 0, .slice none 0 0, .slice none 0 0] 28)).heap[w.heap.size + 1]? = some (.cells #[.slice none 0 0, .slice none 0 0, .slice none 0 0] 28 (0, 0)) := by simpa only [World.size_alloc] using World.alloc_heap_new (w.alloc (.cells #[.int .i64 0, .int .i64 0, .int .i64 0, .int .i64 0, .int .i64 0, .int .i64 0, .int .i64 0] 23)) (.cells #[.slice none 0 0, .slice none 0 0, .slice none 0 0] 28)
  have hG := gb_alloc (gb_alloc (World.grownBy.refl w none) (.cells #[.int .i64 0, .int .i64 0, .int .i64 0, .int .i64 0, .int .i64 0, .int .i64 0, .int .i64 0] 23)) (.cells #[.slice none 0 0, .slice none 0 0, .slice none 0 0] 28)
  go_enter Tryz.func8, Tryz.ntmps8
  go_wp2
  refine bodyPost_ret (results_cct rfl _ _ w.heap.size 23 #[.int .i64 0, .int .i64 0, .int .i64 0, .int .i64 0, .int .i64 0, .int .i64 0, .int .i64 0] (0, 0) _ (w.heap.size + 1) 28 #[.slice none 0 0, .slice none 0 0, .slice none 0 0] (0, 0) _ rfl hC Tryz.underlying23 rfl (by kernel_rfl) rfl hS Tryz.underlying28 rfl (by kernel_rfl)) rfl ?_
  unfold rdPost
  rw [HW.out]
  exact ⟨⟨none, 0, 0⟩, ⟨none, 0, 0⟩, ⟨none, 0, 0⟩, rfl, ⟨SlR.nil _ _ _, SlR.nil _ _ _, SlR.nil _ _ _⟩, gn_below hG⟩
 have hI : ¬ (131072 : Int) < (n : Int) := by omega
 have N := Lib.hid (fun (W : World) (s : RS) (h : RdAt 73 (fun b => b) W (w.heap.size + 1 + 1) a n c xs s) => rnumber_any W (w.heap.size + 1 + 1) a n c xs s h)
 have RT := Lib.hid (fun (W : World) (s : RS) (h : RdAt 73 (fun b => b) W (w.heap.size + 1 + 1) a n c xs s) => (show Calls Tryz.prog 23 #[.pointer (some ⟨w.heap.size + 1 + 1, 0, none⟩), .int .i64 200, .func (Fn.func 24) #[.pointer (some ⟨w.heap.size + 1 + 1, 0, none⟩)] #[]] W fun e w' => ∃ v, e = .returned v ∧ w'.ownsRow W.heap.size 62 10 v (rdList xs 200 (rdTri xs) s).1.length ((rdList xs 200 (rdTri xs) s).1.flatMap triC) ∧ RdAt 73 (fun b => b) w' (w.heap.size + 1 + 1) a n c xs (rdList xs 200 (rdTri xs) s).2 ∧ W.grownBy w' (some (w.heap.size + 1 + 1)) from rrows_tri 200 (by decide) W (w.heap.size + 1 + 1) a n c xs s h))
 have RB := Lib.hid (fun (W : World) (s : RS) (h : RdAt 73 (fun b => b) W (w.heap.size + 1 + 1) a n c xs s) => (show Calls Tryz.prog 25 #[.pointer (some ⟨w.heap.size + 1 + 1, 0, none⟩), .int .i64 16, .func (Fn.func 26) #[.pointer (some ⟨w.heap.size + 1 + 1, 0, none⟩)] #[]] W fun e w' => ∃ v, e = .returned v ∧ w'.ownsRow W.heap.size 65 8 v (rdList xs 16 (rdBx xs) s).1.length ((rdList xs 16 (rdBx xs) s).1.flatMap bxC) ∧ RdAt 73 (fun b => b) w' (w.heap.size + 1 + 1) a n c xs (rdList xs 16 (rdBx xs) s).2 ∧ W.grownBy w' (some (w.heap.size + 1 + 1)) from rrows_box 16 (by decide) W (w.heap.size + 1 + 1) a n c xs s h))
 have RH := Lib.hid (fun (W : World) (s : RS) (h : RdAt 73 (fun b => b) W (w.heap.size + 1 + 1) a n c xs s) => (show Calls Tryz.prog 27 #[.pointer (some ⟨w.heap.size + 1 + 1, 0, none⟩), .int .i64 16, .func (Fn.func 28) #[.pointer (some ⟨w.heap.size + 1 + 1, 0, none⟩)] #[]] W fun e w' => ∃ v, e = .returned v ∧ w'.ownsRow W.heap.size 69 10 v (rdList xs 16 (rdHp xs) s).1.length ((rdList xs 16 (rdHp xs) s).1.flatMap hpC) ∧ RdAt 73 (fun b => b) w' (w.heap.size + 1 + 1) a n c xs (rdList xs 16 (rdHp xs) s).2 ∧ W.grownBy w' (some (w.heap.size + 1 + 1)) from rrows_hop 16 (by decide) W (w.heap.size + 1 + 1) a n c xs s h))
 have hC := (Below.heap_alloc (w.alloc (.cells #[.int .i64 0, .int .i64 0, .int .i64 0, .int .i64 0, .int .i64 0, .int .i64 0, .int .i64 0] 23)) (.cells #[.slice none 0 0, .slice none 0 0, .slice none 0 0] 28) w.heap.size (by simp)).trans (World.alloc_heap_new w (.cells #[.int .i64 0, .int .i64 0, .int .i64 0, .int .i64 0, .int .i64 0, .int .i64 0, .int .i64 0] 23))
 have hS : ((w.alloc (.cells #[.int .i64 0, .int .i64 0, .int .i64 0, .int .i64 0, .int .i64 0, .int .i64 0, .int .i64 0] 23)).alloc (.cells #[.slice none 0 0, .slice none 0 0, .slice none 0 0] 28)).heap[w.heap.size + 1]? = some (.cells #[.slice none 0 0, .slice none 0 0, .slice none 0 0] 28 (0, 0)) := by simpa only [World.size_alloc] using World.alloc_heap_new (w.alloc (.cells #[.int .i64 0, .int .i64 0, .int .i64 0, .int .i64 0, .int .i64 0, .int .i64 0, .int .i64 0] 23)) (.cells #[.slice none 0 0, .slice none 0 0, .slice none 0 0] 28)
 have hG := gb_alloc (gb_alloc (World.grownBy.refl w none) (.cells #[.int .i64 0, .int .i64 0, .int .i64 0, .int .i64 0, .int .i64 0, .int .i64 0, .int .i64 0] 23)) (.cells #[.slice none 0 0, .slice none 0 0, .slice none 0 0] 28)
 have hC' := rd_past (.cells #[.pointer (some ⟨w.heap.size, 0, none⟩), .pointer (some ⟨w.heap.size, 1, none⟩), .pointer (some ⟨w.heap.size, 2, none⟩), .pointer (some ⟨w.heap.size, 3, none⟩), .pointer (some ⟨w.heap.size, 4, none⟩), .pointer (some ⟨w.heap.size, 5, none⟩), .pointer (some ⟨w.heap.size, 6, none⟩)] 74) (rd_past (.cells #[.slice a n c, .int .i64 0, .bool false] 73) hC)
 have hS' := rd_past (.cells #[.pointer (some ⟨w.heap.size, 0, none⟩), .pointer (some ⟨w.heap.size, 1, none⟩), .pointer (some ⟨w.heap.size, 2, none⟩), .pointer (some ⟨w.heap.size, 3, none⟩), .pointer (some ⟨w.heap.size, 4, none⟩), .pointer (some ⟨w.heap.size, 5, none⟩), .pointer (some ⟨w.heap.size, 6, none⟩)] 74) (rd_past (.cells #[.slice a n c, .int .i64 0, .bool false] 73) hS)
 have hG' := gb_alloc (gb_alloc hG (.cells #[.slice a n c, .int .i64 0, .bool false] 73)) (.cells #[.pointer (some ⟨w.heap.size, 0, none⟩), .pointer (some ⟨w.heap.size, 1, none⟩), .pointer (some ⟨w.heap.size, 2, none⟩), .pointer (some ⟨w.heap.size, 3, none⟩), .pointer (some ⟨w.heap.size, 4, none⟩), .pointer (some ⟨w.heap.size, 5, none⟩), .pointer (some ⟨w.heap.size, 6, none⟩)] 74)
 have hP : ((((w.alloc (.cells #[.int .i64 0, .int .i64 0, .int .i64 0, .int .i64 0, .int .i64 0, .int .i64 0, .int .i64 0] 23)).alloc (.cells #[.slice none 0 0, .slice none 0 0, .slice none 0 0] 28)).alloc (.cells #[.slice a n c, .int .i64 0, .bool false] 73)).alloc (.cells #[.pointer (some ⟨w.heap.size, 0, none⟩), .pointer (some ⟨w.heap.size, 1, none⟩), .pointer (some ⟨w.heap.size, 2, none⟩), .pointer (some ⟨w.heap.size, 3, none⟩), .pointer (some ⟨w.heap.size, 4, none⟩), .pointer (some ⟨w.heap.size, 5, none⟩), .pointer (some ⟨w.heap.size, 6, none⟩)] 74)).heap[w.heap.size + 1 + 1 + 1]? = some (.cells #[.pointer (some ⟨w.heap.size, 0, none⟩), .pointer (some ⟨w.heap.size, 1, none⟩), .pointer (some ⟨w.heap.size, 2, none⟩), .pointer (some ⟨w.heap.size, 3, none⟩), .pointer (some ⟨w.heap.size, 4, none⟩), .pointer (some ⟨w.heap.size, 5, none⟩), .pointer (some ⟨w.heap.size, 6, none⟩)] 74 (0, 0)) := rd_at _ (by simp)
 have hA : RdAt 73 (fun b => b) ((((w.alloc (.cells #[.int .i64 0, .int .i64 0, .int .i64 0, .int .i64 0, .int .i64 0, .int .i64 0, .int .i64 0] 23)).alloc (.cells #[.slice none 0 0, .slice none 0 0, .slice none 0 0] 28)).alloc (.cells #[.slice a n c, .int .i64 0, .bool false] 73)).alloc (.cells #[.pointer (some ⟨w.heap.size, 0, none⟩), .pointer (some ⟨w.heap.size, 1, none⟩), .pointer (some ⟨w.heap.size, 2, none⟩), .pointer (some ⟨w.heap.size, 3, none⟩), .pointer (some ⟨w.heap.size, 4, none⟩), .pointer (some ⟨w.heap.size, 5, none⟩), .pointer (some ⟨w.heap.size, 6, none⟩)] 74)) (w.heap.size + 1 + 1) a n c xs (0, false) := ⟨rd_past _ (rd_at _ (by simp)), (((hx.alloc _).alloc _).alloc _).alloc _, Nat.zero_le _, hfar.imp id (fun q ad ha => by have := q ad ha; omega), by omega, hb⟩
 clear hC hS hG
 have hC := hC'
 have hS := hS'
 have hG := hG'
 clear hC' hS' hG'
 go_enter Tryz.func8, Tryz.ntmps8
 go_wp2_with fail
 refine wp_loop_rounds 8 ?_
 rw [rounds_succ]
 have p0 := cell_heap (k := 0) (v := .pointer (some ⟨w.heap.size, 0, none⟩)) hP rfl
 obtain ⟨r0, hr0⟩ : ∃ r, Hid (r = rdNum xs ((0, false) : RS)) := ⟨_, rfl⟩
 have CO := N.out _ _ hA
 rw [← hr0.out] at CO
 go_wp2_with fail
 refine CO.mono ?_
 rintro e y0 ⟨rfl, hA', hg'⟩
 clear CO
 have hC' := blk_other hg' hC (by omega)
 have hS' := blk_other hg' hS (by omega)
 have hG' := gn_call hG hg' (by omega)
 have hP' := blk_other hg' hP (by omega)
 clear hC hS hG hA hP
 have hC := hC'
 have hS := hS'
 have hG := hG'
 have hA := hA'
 have hP := hP'
 clear hC' hS' hG' hA' hP'
 clear hg'
 clear p0
 have e0 := cell_heap (k := 0) (v := .int .i64 0) hC rfl
 have e1 := blk_frozen (j := 0) hC
 have hC' : (y0.setCell ⟨w.heap.size, 0, none⟩ (.int .i64 r0.1)).heap[w.heap.size]? = some (.cells #[.int .i64 r0.1, .int .i64 0, .int .i64 0, .int .i64 0, .int .i64 0, .int .i64 0, .int .i64 0] 23 (0, 0)) := heap_setCell_same y0 (w.heap.size) 0 _ _ _ hC
 have hS' : (y0.setCell ⟨w.heap.size, 0, none⟩ (.int .i64 r0.1)).heap[w.heap.size + 1]? = some (.cells #[.slice none 0 0, .slice none 0 0, .slice none 0 0] 28 (0, 0)) := heap_set_far hS (by omega)
 have hG' := gb_set hG (b := w.heap.size) (by omega) 0 (.int .i64 r0.1)
 have hA' := hA.setFar (b := w.heap.size) (by omega) (hfar.imp id fun q ad ha => by have := q ad ha; omega) 0 (.int .i64 r0.1)
 have hP' : (y0.setCell ⟨w.heap.size, 0, none⟩ (.int .i64 r0.1)).heap[w.heap.size + 1 + 1 + 1]? = some (.cells #[.pointer (some ⟨w.heap.size, 0, none⟩), .pointer (some ⟨w.heap.size, 1, none⟩), .pointer (some ⟨w.heap.size, 2, none⟩), .pointer (some ⟨w.heap.size, 3, none⟩), .pointer (some ⟨w.heap.size, 4, none⟩), .pointer (some ⟨w.heap.size, 5, none⟩), .pointer (some ⟨w.heap.size, 6, none⟩)] 74 (0, 0)) := heap_set_far hP (by omega)
 clear hC hS hG hA hP
 have hC := hC'
 have hS := hS'
 have hG := hG'
 have hA := hA'
 have hP := hP'
 clear hC' hS' hG' hA' hP'
 go_wp2_with fail
 clear e0 e1
 rw [rounds_succ]
 have p1 := cell_heap (k := 1) (v := .pointer (some ⟨w.heap.size, 1, none⟩)) hP rfl
 obtain ⟨r1, hr1⟩ : ∃ r, Hid (r = rdNum xs r0.2) := ⟨_, rfl⟩
 have CO := N.out _ _ hA
 rw [← hr1.out] at CO
 go_wp2_with fail
 refine CO.mono ?_
 rintro e y1 ⟨rfl, hA', hg'⟩
 clear CO
 have hC' := blk_other hg' hC (by omega)
 have hS' := blk_other hg' hS (by omega)
 have hG' := gn_call hG hg' (by omega)
 have hP' := blk_other hg' hP (by omega)
 clear hC hS hG hA hP
 have hC := hC'
 have hS := hS'
 have hG := hG'
 have hA := hA'
 have hP := hP'
 clear hC' hS' hG' hA' hP'
 clear hg'
 clear p1
 have e0 := cell_heap (k := 1) (v := .int .i64 0) hC rfl
 have e1 := blk_frozen (j := 1) hC
 have hC' : (y1.setCell ⟨w.heap.size, 1, none⟩ (.int .i64 r1.1)).heap[w.heap.size]? = some (.cells #[.int .i64 r0.1, .int .i64 r1.1, .int .i64 0, .int .i64 0, .int .i64 0, .int .i64 0, .int .i64 0] 23 (0, 0)) := heap_setCell_same y1 (w.heap.size) 1 _ _ _ hC
 have hS' : (y1.setCell ⟨w.heap.size, 1, none⟩ (.int .i64 r1.1)).heap[w.heap.size + 1]? = some (.cells #[.slice none 0 0, .slice none 0 0, .slice none 0 0] 28 (0, 0)) := heap_set_far hS (by omega)
 have hG' := gb_set hG (b := w.heap.size) (by omega) 1 (.int .i64 r1.1)
 have hA' := hA.setFar (b := w.heap.size) (by omega) (hfar.imp id fun q ad ha => by have := q ad ha; omega) 1 (.int .i64 r1.1)
 have hP' : (y1.setCell ⟨w.heap.size, 1, none⟩ (.int .i64 r1.1)).heap[w.heap.size + 1 + 1 + 1]? = some (.cells #[.pointer (some ⟨w.heap.size, 0, none⟩), .pointer (some ⟨w.heap.size, 1, none⟩), .pointer (some ⟨w.heap.size, 2, none⟩), .pointer (some ⟨w.heap.size, 3, none⟩), .pointer (some ⟨w.heap.size, 4, none⟩), .pointer (some ⟨w.heap.size, 5, none⟩), .pointer (some ⟨w.heap.size, 6, none⟩)] 74 (0, 0)) := heap_set_far hP (by omega)
 clear hC hS hG hA hP
 have hC := hC'
 have hS := hS'
 have hG := hG'
 have hA := hA'
 have hP := hP'
 clear hC' hS' hG' hA' hP'
 go_wp2_with fail
 clear e0 e1
 rw [rounds_succ]
 have p2 := cell_heap (k := 2) (v := .pointer (some ⟨w.heap.size, 2, none⟩)) hP rfl
 obtain ⟨r2, hr2⟩ : ∃ r, Hid (r = rdNum xs r1.2) := ⟨_, rfl⟩
 have CO := N.out _ _ hA
 rw [← hr2.out] at CO
 go_wp2_with fail
 refine CO.mono ?_
 rintro e y2 ⟨rfl, hA', hg'⟩
 clear CO
 have hC' := blk_other hg' hC (by omega)
 have hS' := blk_other hg' hS (by omega)
 have hG' := gn_call hG hg' (by omega)
 have hP' := blk_other hg' hP (by omega)
 clear hC hS hG hA hP
 have hC := hC'
 have hS := hS'
 have hG := hG'
 have hA := hA'
 have hP := hP'
 clear hC' hS' hG' hA' hP'
 clear hg'
 clear p2
 have e0 := cell_heap (k := 2) (v := .int .i64 0) hC rfl
 have e1 := blk_frozen (j := 2) hC
 have hC' : (y2.setCell ⟨w.heap.size, 2, none⟩ (.int .i64 r2.1)).heap[w.heap.size]? = some (.cells #[.int .i64 r0.1, .int .i64 r1.1, .int .i64 r2.1, .int .i64 0, .int .i64 0, .int .i64 0, .int .i64 0] 23 (0, 0)) := heap_setCell_same y2 (w.heap.size) 2 _ _ _ hC
 have hS' : (y2.setCell ⟨w.heap.size, 2, none⟩ (.int .i64 r2.1)).heap[w.heap.size + 1]? = some (.cells #[.slice none 0 0, .slice none 0 0, .slice none 0 0] 28 (0, 0)) := heap_set_far hS (by omega)
 have hG' := gb_set hG (b := w.heap.size) (by omega) 2 (.int .i64 r2.1)
 have hA' := hA.setFar (b := w.heap.size) (by omega) (hfar.imp id fun q ad ha => by have := q ad ha; omega) 2 (.int .i64 r2.1)
 have hP' : (y2.setCell ⟨w.heap.size, 2, none⟩ (.int .i64 r2.1)).heap[w.heap.size + 1 + 1 + 1]? = some (.cells #[.pointer (some ⟨w.heap.size, 0, none⟩), .pointer (some ⟨w.heap.size, 1, none⟩), .pointer (some ⟨w.heap.size, 2, none⟩), .pointer (some ⟨w.heap.size, 3, none⟩), .pointer (some ⟨w.heap.size, 4, none⟩), .pointer (some ⟨w.heap.size, 5, none⟩), .pointer (some ⟨w.heap.size, 6, none⟩)] 74 (0, 0)) := heap_set_far hP (by omega)
 clear hC hS hG hA hP
 have hC := hC'
 have hS := hS'
 have hG := hG'
 have hA := hA'
 have hP := hP'
 clear hC' hS' hG' hA' hP'
 go_wp2_with fail
 clear e0 e1
 rw [rounds_succ]
 have p3 := cell_heap (k := 3) (v := .pointer (some ⟨w.heap.size, 3, none⟩)) hP rfl
 obtain ⟨r3, hr3⟩ : ∃ r, Hid (r = rdNum xs r2.2) := ⟨_, rfl⟩
 have CO := N.out _ _ hA
 rw [← hr3.out] at CO
 go_wp2_with fail
 refine CO.mono ?_
 rintro e y3 ⟨rfl, hA', hg'⟩
 clear CO
 have hC' := blk_other hg' hC (by omega)
 have hS' := blk_other hg' hS (by omega)
 have hG' := gn_call hG hg' (by omega)
 have hP' := blk_other hg' hP (by omega)
 clear hC hS hG hA hP
 have hC := hC'
 have hS := hS'
 have hG := hG'
 have hA := hA'
 have hP := hP'
 clear hC' hS' hG' hA' hP'
 clear hg'
 clear p3
 have e0 := cell_heap (k := 3) (v := .int .i64 0) hC rfl
 have e1 := blk_frozen (j := 3) hC
 have hC' : (y3.setCell ⟨w.heap.size, 3, none⟩ (.int .i64 r3.1)).heap[w.heap.size]? = some (.cells #[.int .i64 r0.1, .int .i64 r1.1, .int .i64 r2.1, .int .i64 r3.1, .int .i64 0, .int .i64 0, .int .i64 0] 23 (0, 0)) := heap_setCell_same y3 (w.heap.size) 3 _ _ _ hC
 have hS' : (y3.setCell ⟨w.heap.size, 3, none⟩ (.int .i64 r3.1)).heap[w.heap.size + 1]? = some (.cells #[.slice none 0 0, .slice none 0 0, .slice none 0 0] 28 (0, 0)) := heap_set_far hS (by omega)
 have hG' := gb_set hG (b := w.heap.size) (by omega) 3 (.int .i64 r3.1)
 have hA' := hA.setFar (b := w.heap.size) (by omega) (hfar.imp id fun q ad ha => by have := q ad ha; omega) 3 (.int .i64 r3.1)
 have hP' : (y3.setCell ⟨w.heap.size, 3, none⟩ (.int .i64 r3.1)).heap[w.heap.size + 1 + 1 + 1]? = some (.cells #[.pointer (some ⟨w.heap.size, 0, none⟩), .pointer (some ⟨w.heap.size, 1, none⟩), .pointer (some ⟨w.heap.size, 2, none⟩), .pointer (some ⟨w.heap.size, 3, none⟩), .pointer (some ⟨w.heap.size, 4, none⟩), .pointer (some ⟨w.heap.size, 5, none⟩), .pointer (some ⟨w.heap.size, 6, none⟩)] 74 (0, 0)) := heap_set_far hP (by omega)
 clear hC hS hG hA hP
 have hC := hC'
 have hS := hS'
 have hG := hG'
 have hA := hA'
 have hP := hP'
 clear hC' hS' hG' hA' hP'
 go_wp2_with fail
 clear e0 e1
 rw [rounds_succ]
 have p4 := cell_heap (k := 4) (v := .pointer (some ⟨w.heap.size, 4, none⟩)) hP rfl
 obtain ⟨r4, hr4⟩ : ∃ r, Hid (r = rdNum xs r3.2) := ⟨_, rfl⟩
 have CO := N.out _ _ hA
 rw [← hr4.out] at CO
 go_wp2_with fail
 refine CO.mono ?_
 rintro e y4 ⟨rfl, hA', hg'⟩
 clear CO
 have hC' := blk_other hg' hC (by omega)
 have hS' := blk_other hg' hS (by omega)
 have hG' := gn_call hG hg' (by omega)
 have hP' := blk_other hg' hP (by omega)
 clear hC hS hG hA hP
 have hC := hC'
 have hS := hS'
 have hG := hG'
 have hA := hA'
 have hP := hP'
 clear hC' hS' hG' hA' hP'
 clear hg'
 clear p4
 have e0 := cell_heap (k := 4) (v := .int .i64 0) hC rfl
 have e1 := blk_frozen (j := 4) hC
 have hC' : (y4.setCell ⟨w.heap.size, 4, none⟩ (.int .i64 r4.1)).heap[w.heap.size]? = some (.cells #[.int .i64 r0.1, .int .i64 r1.1, .int .i64 r2.1, .int .i64 r3.1, .int .i64 r4.1, .int .i64 0, .int .i64 0] 23 (0, 0)) := heap_setCell_same y4 (w.heap.size) 4 _ _ _ hC
 have hS' : (y4.setCell ⟨w.heap.size, 4, none⟩ (.int .i64 r4.1)).heap[w.heap.size + 1]? = some (.cells #[.slice none 0 0, .slice none 0 0, .slice none 0 0] 28 (0, 0)) := heap_set_far hS (by omega)
 have hG' := gb_set hG (b := w.heap.size) (by omega) 4 (.int .i64 r4.1)
 have hA' := hA.setFar (b := w.heap.size) (by omega) (hfar.imp id fun q ad ha => by have := q ad ha; omega) 4 (.int .i64 r4.1)
 have hP' : (y4.setCell ⟨w.heap.size, 4, none⟩ (.int .i64 r4.1)).heap[w.heap.size + 1 + 1 + 1]? = some (.cells #[.pointer (some ⟨w.heap.size, 0, none⟩), .pointer (some ⟨w.heap.size, 1, none⟩), .pointer (some ⟨w.heap.size, 2, none⟩), .pointer (some ⟨w.heap.size, 3, none⟩), .pointer (some ⟨w.heap.size, 4, none⟩), .pointer (some ⟨w.heap.size, 5, none⟩), .pointer (some ⟨w.heap.size, 6, none⟩)] 74 (0, 0)) := heap_set_far hP (by omega)
 clear hC hS hG hA hP
 have hC := hC'
 have hS := hS'
 have hG := hG'
 have hA := hA'
 have hP := hP'
 clear hC' hS' hG' hA' hP'
 go_wp2_with fail
 clear e0 e1
 rw [rounds_succ]
 have p5 := cell_heap (k := 5) (v := .pointer (some ⟨w.heap.size, 5, none⟩)) hP rfl
 obtain ⟨r5, hr5⟩ : ∃ r, Hid (r = rdNum xs r4.2) := ⟨_, rfl⟩
 have CO := N.out _ _ hA
 rw [← hr5.out] at CO
 go_wp2_with fail
 refine CO.mono ?_
 rintro e y5 ⟨rfl, hA', hg'⟩
 clear CO
 have hC' := blk_other hg' hC (by omega)
 have hS' := blk_other hg' hS (by omega)
 have hG' := gn_call hG hg' (by omega)
 have hP' := blk_other hg' hP (by omega)
 clear hC hS hG hA hP
 have hC := hC'
 have hS := hS'
 have hG := hG'
 have hA := hA'
 have hP := hP'
 clear hC' hS' hG' hA' hP'
 clear hg'
 clear p5
 have e0 := cell_heap (k := 5) (v := .int .i64 0) hC rfl
 have e1 := blk_frozen (j := 5) hC
 have hC' : (y5.setCell ⟨w.heap.size, 5, none⟩ (.int .i64 r5.1)).heap[w.heap.size]? = some (.cells #[.int .i64 r0.1, .int .i64 r1.1, .int .i64 r2.1, .int .i64 r3.1, .int .i64 r4.1, .int .i64 r5.1, .int .i64 0] 23 (0, 0)) := heap_setCell_same y5 (w.heap.size) 5 _ _ _ hC
 have hS' : (y5.setCell ⟨w.heap.size, 5, none⟩ (.int .i64 r5.1)).heap[w.heap.size + 1]? = some (.cells #[.slice none 0 0, .slice none 0 0, .slice none 0 0] 28 (0, 0)) := heap_set_far hS (by omega)
 have hG' := gb_set hG (b := w.heap.size) (by omega) 5 (.int .i64 r5.1)
 have hA' := hA.setFar (b := w.heap.size) (by omega) (hfar.imp id fun q ad ha => by have := q ad ha; omega) 5 (.int .i64 r5.1)
 have hP' : (y5.setCell ⟨w.heap.size, 5, none⟩ (.int .i64 r5.1)).heap[w.heap.size + 1 + 1 + 1]? = some (.cells #[.pointer (some ⟨w.heap.size, 0, none⟩), .pointer (some ⟨w.heap.size, 1, none⟩), .pointer (some ⟨w.heap.size, 2, none⟩), .pointer (some ⟨w.heap.size, 3, none⟩), .pointer (some ⟨w.heap.size, 4, none⟩), .pointer (some ⟨w.heap.size, 5, none⟩), .pointer (some ⟨w.heap.size, 6, none⟩)] 74 (0, 0)) := heap_set_far hP (by omega)
 clear hC hS hG hA hP
 have hC := hC'
 have hS := hS'
 have hG := hG'
 have hA := hA'
 have hP := hP'
 clear hC' hS' hG' hA' hP'
 go_wp2_with fail
 clear e0 e1
 rw [rounds_succ]
 have p6 := cell_heap (k := 6) (v := .pointer (some ⟨w.heap.size, 6, none⟩)) hP rfl
 obtain ⟨r6, hr6⟩ : ∃ r, Hid (r = rdNum xs r5.2) := ⟨_, rfl⟩
 have CO := N.out _ _ hA
 rw [← hr6.out] at CO
 go_wp2_with fail
 refine CO.mono ?_
 rintro e y6 ⟨rfl, hA', hg'⟩
 clear CO
 have hC' := blk_other hg' hC (by omega)
 have hS' := blk_other hg' hS (by omega)
 have hG' := gn_call hG hg' (by omega)
 have hP' := blk_other hg' hP (by omega)
 clear hC hS hG hA hP
 have hC := hC'
 have hS := hS'
 have hG := hG'
 have hA := hA'
 have hP := hP'
 clear hC' hS' hG' hA' hP'
 clear hg'
 clear p6
 have e0 := cell_heap (k := 6) (v := .int .i64 0) hC rfl
 have e1 := blk_frozen (j := 6) hC
 have hC' : (y6.setCell ⟨w.heap.size, 6, none⟩ (.int .i64 r6.1)).heap[w.heap.size]? = some (.cells #[.int .i64 r0.1, .int .i64 r1.1, .int .i64 r2.1, .int .i64 r3.1, .int .i64 r4.1, .int .i64 r5.1, .int .i64 r6.1] 23 (0, 0)) := heap_setCell_same y6 (w.heap.size) 6 _ _ _ hC
 have hS' : (y6.setCell ⟨w.heap.size, 6, none⟩ (.int .i64 r6.1)).heap[w.heap.size + 1]? = some (.cells #[.slice none 0 0, .slice none 0 0, .slice none 0 0] 28 (0, 0)) := heap_set_far hS (by omega)
 have hG' := gb_set hG (b := w.heap.size) (by omega) 6 (.int .i64 r6.1)
 have hA' := hA.setFar (b := w.heap.size) (by omega) (hfar.imp id fun q ad ha => by have := q ad ha; omega) 6 (.int .i64 r6.1)
 have hP' : (y6.setCell ⟨w.heap.size, 6, none⟩ (.int .i64 r6.1)).heap[w.heap.size + 1 + 1 + 1]? = some (.cells #[.pointer (some ⟨w.heap.size, 0, none⟩), .pointer (some ⟨w.heap.size, 1, none⟩), .pointer (some ⟨w.heap.size, 2, none⟩), .pointer (some ⟨w.heap.size, 3, none⟩), .pointer (some ⟨w.heap.size, 4, none⟩), .pointer (some ⟨w.heap.size, 5, none⟩), .pointer (some ⟨w.heap.size, 6, none⟩)] 74 (0, 0)) := heap_set_far hP (by omega)
 clear hC hS hG hA hP
 have hC := hC'
 have hS := hS'
 have hG := hG'
 have hA := hA'
 have hP := hP'
 clear hC' hS' hG' hA' hP'
 go_wp2_with fail
 clear e0 e1
 rw [rounds_succ]
 clear hP
 obtain ⟨r7, hr7⟩ : ∃ r, Hid (r = rdList xs 200 (rdTri xs) r6.2) := ⟨_, rfl⟩
 have CO := RT.out _ _ hA
 rw [← hr7.out] at CO
 have hlt7 := hA.lt
 go_wp2_with fail
 refine CO.mono ?_
 rintro e y7 ⟨v7, rfl, o1, hA', hg'⟩
 clear CO
 have hsz7 := hG.size
 have hC' := blk_other hg' hC (by omega)
 have hS' := blk_other hg' hS (by omega)
 have hG' := gn_call hG hg' (by omega)
 clear hC hS hG hA
 have hC := hC'
 have hS := hS'
 have hG := hG'
 have hA := hA'
 clear hC' hS' hG' hA'
 clear hg'
 obtain ⟨a7, k7, rfl, _⟩ := SlR.of_owns (f := triC) (sz := 10) (fun _ => rfl) rfl o1
 have e0 := cell_heap (k := 0) (v := .slice none 0 0) hS rfl
 have e1 := blk_frozen (j := 0) hS
 have hS' : (y7.setCell ⟨w.heap.size + 1, 0, none⟩ (.slice a7 r7.1.length k7)).heap[w.heap.size + 1]? = some (.cells #[.slice a7 r7.1.length k7, .slice none 0 0, .slice none 0 0] 28 (0, 0)) := heap_setCell_same y7 (w.heap.size + 1) 0 _ _ _ hS
 have hC' : (y7.setCell ⟨w.heap.size + 1, 0, none⟩ (.slice a7 r7.1.length k7)).heap[w.heap.size]? = some (.cells #[.int .i64 r0.1, .int .i64 r1.1, .int .i64 r2.1, .int .i64 r3.1, .int .i64 r4.1, .int .i64 r5.1, .int .i64 r6.1] 23 (0, 0)) := heap_set_far hC (by omega)
 have hG' := gb_set hG (b := w.heap.size + 1) (by omega) 0 (.slice a7 r7.1.length k7)
 have hA' := hA.setFar (b := w.heap.size + 1) (by omega) (hfar.imp id fun q ad ha => by have := q ad ha; omega) 0 (.slice a7 r7.1.length k7)
 have o1' := owns_set o1 (b := w.heap.size + 1) (by omega) 0 (.slice a7 r7.1.length k7)
 clear hC hS hG hA o1
 have hC := hC'
 have hS := hS'
 have hG := hG'
 have hA := hA'
 have o1 := o1'
 clear hC' hS' hG' hA' o1'
 obtain ⟨r8, hr8⟩ : ∃ r, Hid (r = rdList xs 16 (rdBx xs) r7.2) := ⟨_, rfl⟩
 have CO := RB.out _ _ hA
 rw [← hr8.out] at CO
 have hlt8 := hA.lt
 go_wp2_with fail
 refine CO.mono ?_
 rintro e y8 ⟨v8, rfl, o2, hA', hg'⟩
 clear CO
 clear e0 e1
 have hsz8 := hG.size
 have hC' := blk_other hg' hC (by omega)
 have hS' := blk_other hg' hS (by omega)
 have hG' := gn_call hG hg' (by omega)
 have o1' := owns_call o1 hg' (by omega)
 clear hC hS hG hA o1
 have hC := hC'
 have hS := hS'
 have hG := hG'
 have hA := hA'
 have o1 := o1'
 clear hC' hS' hG' hA' o1'
 clear hg'
 obtain ⟨a8, k8, rfl, _⟩ := SlR.of_owns (f := bxC) (sz := 8) (fun _ => rfl) rfl o2
 have e0 := cell_heap (k := 1) (v := .slice none 0 0) hS rfl
 have e1 := blk_frozen (j := 1) hS
 have hS' : (y8.setCell ⟨w.heap.size + 1, 1, none⟩ (.slice a8 r8.1.length k8)).heap[w.heap.size + 1]? = some (.cells #[.slice a7 r7.1.length k7, .slice a8 r8.1.length k8, .slice none 0 0] 28 (0, 0)) := heap_setCell_same y8 (w.heap.size + 1) 1 _ _ _ hS
 have hC' : (y8.setCell ⟨w.heap.size + 1, 1, none⟩ (.slice a8 r8.1.length k8)).heap[w.heap.size]? = some (.cells #[.int .i64 r0.1, .int .i64 r1.1, .int .i64 r2.1, .int .i64 r3.1, .int .i64 r4.1, .int .i64 r5.1, .int .i64 r6.1] 23 (0, 0)) := heap_set_far hC (by omega)
 have hG' := gb_set hG (b := w.heap.size + 1) (by omega) 1 (.slice a8 r8.1.length k8)
 have hA' := hA.setFar (b := w.heap.size + 1) (by omega) (hfar.imp id fun q ad ha => by have := q ad ha; omega) 1 (.slice a8 r8.1.length k8)
 have o1' := owns_set o1 (b := w.heap.size + 1) (by omega) 1 (.slice a8 r8.1.length k8)
 have o2' := owns_set o2 (b := w.heap.size + 1) (by omega) 1 (.slice a8 r8.1.length k8)
 clear hC hS hG hA o1 o2
 have hC := hC'
 have hS := hS'
 have hG := hG'
 have hA := hA'
 have o1 := o1'
 have o2 := o2'
 clear hC' hS' hG' hA' o1' o2'
 obtain ⟨r9, hr9⟩ : ∃ r, Hid (r = rdList xs 16 (rdHp xs) r8.2) := ⟨_, rfl⟩
 have CO := RH.out _ _ hA
 rw [← hr9.out] at CO
 have hlt9 := hA.lt
 go_wp2_with fail
 refine CO.mono ?_
 rintro e y9 ⟨v9, rfl, o3, hA', hg'⟩
 clear CO
 clear e0 e1
 have hsz9 := hG.size
 have hC' := blk_other hg' hC (by omega)
 have hS' := blk_other hg' hS (by omega)
 have hG' := gn_call hG hg' (by omega)
 have o1' := owns_call o1 hg' (by omega)
 have o2' := owns_call o2 hg' (by omega)
 clear hC hS hG hA o1 o2
 have hC := hC'
 have hS := hS'
 have hG := hG'
 have hA := hA'
 have o1 := o1'
 have o2 := o2'
 clear hC' hS' hG' hA' o1' o2'
 clear hg'
 obtain ⟨a9, k9, rfl, _⟩ := SlR.of_owns (f := hpC) (sz := 10) (fun _ => rfl) rfl o3
 have e0 := cell_heap (k := 2) (v := .slice none 0 0) hS rfl
 have e1 := blk_frozen (j := 2) hS
 have hS' : (y9.setCell ⟨w.heap.size + 1, 2, none⟩ (.slice a9 r9.1.length k9)).heap[w.heap.size + 1]? = some (.cells #[.slice a7 r7.1.length k7, .slice a8 r8.1.length k8, .slice a9 r9.1.length k9] 28 (0, 0)) := heap_setCell_same y9 (w.heap.size + 1) 2 _ _ _ hS
 have hC' : (y9.setCell ⟨w.heap.size + 1, 2, none⟩ (.slice a9 r9.1.length k9)).heap[w.heap.size]? = some (.cells #[.int .i64 r0.1, .int .i64 r1.1, .int .i64 r2.1, .int .i64 r3.1, .int .i64 r4.1, .int .i64 r5.1, .int .i64 r6.1] 23 (0, 0)) := heap_set_far hC (by omega)
 have hG' := gb_set hG (b := w.heap.size + 1) (by omega) 2 (.slice a9 r9.1.length k9)
 have hA' := hA.setFar (b := w.heap.size + 1) (by omega) (hfar.imp id fun q ad ha => by have := q ad ha; omega) 2 (.slice a9 r9.1.length k9)
 have o1' := owns_set o1 (b := w.heap.size + 1) (by omega) 2 (.slice a9 r9.1.length k9)
 have o2' := owns_set o2 (b := w.heap.size + 1) (by omega) 2 (.slice a9 r9.1.length k9)
 have o3' := owns_set o3 (b := w.heap.size + 1) (by omega) 2 (.slice a9 r9.1.length k9)
 clear hC hS hG hA o1 o2 o3
 have hC := hC'
 have hS := hS'
 have hG := hG'
 have hA := hA'
 have o1 := o1'
 have o2 := o2'
 have o3 := o3'
 clear hC' hS' hG' hA' o1' o2' o3'
 have HV1 : Hid (V = if r9.2.2 = true ∨ soupE ⟨r0.1, r1.1, r2.1, r3.1, r4.1, r5.1, r6.1⟩ ⟨r7.1, r8.1, r9.1⟩ ≠ 0 then (cfg0, sou0, 0, 200) else (⟨r0.1, r1.1, r2.1, r3.1, r4.1, r5.1, r6.1⟩, ⟨r7.1, r8.1, r9.1⟩, (r9.2.1 : Int), 0)) := by
  show _ = _
  rw [HV.out, rdSoup, if_neg (by omega), hr9.out, hr8.out, hr7.out, hr6.out, hr5.out, hr4.out, hr3.out, hr2.out, hr1.out, hr0.out]
  rfl
 have c2 := cell_heap (k := 2) (v := .bool r9.2.2) hA.blk rfl
 cases hbd : r9.2.2 with
 | true =>
  rw [hbd] at c2
  have HW : Hid (V = (cfg0, sou0, 0, 200)) := by show _ = _; rw [HV1.out, if_pos (.inl hbd)]
  have e2 := cell_heap (k := 0) (v := .int .i64 r0.1) hC rfl
  have e3 := blk_frozen (j := 0) hC
  have hC' : ((y9.setCell ⟨w.heap.size + 1, 2, none⟩ (.slice a9 r9.1.length k9)).setCell ⟨w.heap.size, 0, none⟩ (.int .i64 0)).heap[w.heap.size]? = some (.cells #[.int .i64 0, .int .i64 r1.1, .int .i64 r2.1, .int .i64 r3.1, .int .i64 r4.1, .int .i64 r5.1, .int .i64 r6.1] 23 (0, 0)) := heap_setCell_same (y9.setCell ⟨w.heap.size + 1, 2, none⟩ (.slice a9 r9.1.length k9)) (w.heap.size) 0 _ _ _ hC
  have hS' : ((y9.setCell ⟨w.heap.size + 1, 2, none⟩ (.slice a9 r9.1.length k9)).setCell ⟨w.heap.size, 0, none⟩ (.int .i64 0)).heap[w.heap.size + 1]? = some (.cells #[.slice a7 r7.1.length k7, .slice a8 r8.1.length k8, .slice a9 r9.1.length k9] 28 (0, 0)) := heap_set_far hS (by omega)
  have hG' := gb_set hG (b := w.heap.size) (by omega) 0 (.int .i64 0)
  have hA' := hA.setFar (b := w.heap.size) (by omega) (hfar.imp id fun q ad ha => by have := q ad ha; omega) 0 (.int .i64 0)
  have o1' := owns_set o1 (b := w.heap.size) (by omega) 0 (.int .i64 0)
  have o2' := owns_set o2 (b := w.heap.size) (by omega) 0 (.int .i64 0)
  have o3' := owns_set o3 (b := w.heap.size) (by omega) 0 (.int .i64 0)
  clear hC hS hG hA o1 o2 o3
  have hC := hC'
  have hS := hS'
  have hG := hG'
  have hA := hA'
  have o1 := o1'
  have o2 := o2'
  have o3 := o3'
  clear hC' hS' hG' hA' o1' o2' o3'
  have e4 := cell_heap (k := 1) (v := .int .i64 r1.1) hC rfl
  have e5 := blk_frozen (j := 1) hC
  have hC' : (((y9.setCell ⟨w.heap.size + 1, 2, none⟩ (.slice a9 r9.1.length k9)).setCell ⟨w.heap.size, 0, none⟩ (.int .i64 0)).setCell ⟨w.heap.size, 1, none⟩ (.int .i64 0)).heap[w.heap.size]? = some (.cells #[.int .i64 0, .int .i64 0, .int .i64 r2.1, .int .i64 r3.1, .int .i64 r4.1, .int .i64 r5.1, .int .i64 r6.1] 23 (0, 0)) := heap_setCell_same ((y9.setCell ⟨w.heap.size + 1, 2, none⟩ (.slice a9 r9.1.length k9)).setCell ⟨w.heap.size, 0, none⟩ (.int .i64 0)) (w.heap.size) 1 _ _ _ hC
  have hS' : (((y9.setCell ⟨w.heap.size + 1, 2, none⟩ (.slice a9 r9.1.length k9)).setCell ⟨w.heap.size, 0, none⟩ (.int .i64 0)).setCell ⟨w.heap.size, 1, none⟩ (.int .i64 0)).heap[w.heap.size + 1]? = some (.cells #[.slice a7 r7.1.length k7, .slice a8 r8.1.length k8, .slice a9 r9.1.length k9] 28 (0, 0)) := heap_set_far hS (by omega)
  have hG' := gb_set hG (b := w.heap.size) (by omega) 1 (.int .i64 0)
  have hA' := hA.setFar (b := w.heap.size) (by omega) (hfar.imp id fun q ad ha => by have := q ad ha; omega) 1 (.int .i64 0)
  have o1' := owns_set o1 (b := w.heap.size) (by omega) 1 (.int .i64 0)
  have o2' := owns_set o2 (b := w.heap.size) (by omega) 1 (.int .i64 0)
  have o3' := owns_set o3 (b := w.heap.size) (by omega) 1 (.int .i64 0)
  clear hC hS hG hA o1 o2 o3
  have hC := hC'
  have hS := hS'
  have hG := hG'
  have hA := hA'
  have o1 := o1'
  have o2 := o2'
  have o3 := o3'
  clear hC' hS' hG' hA' o1' o2' o3'
  have e6 := cell_heap (k := 2) (v := .int .i64 r2.1) hC rfl
  have e7 := blk_frozen (j := 2) hC
  have hC' : ((((y9.setCell ⟨w.heap.size + 1, 2, none⟩ (.slice a9 r9.1.length k9)).setCell ⟨w.heap.size, 0, none⟩ (.int .i64 0)).setCell ⟨w.heap.size, 1, none⟩ (.int .i64 0)).setCell ⟨w.heap.size, 2, none⟩ (.int .i64 0)).heap[w.heap.size]? = some (.cells #[.int .i64 0, .int .i64 0, .int .i64 0, .int .i64 r3.1, .int .i64 r4.1, .int .i64 r5.1, .int .i64 r6.1] 23 (0, 0)) := heap_setCell_same (((y9.setCell ⟨w.heap.size + 1, 2, none⟩ (.slice a9 r9.1.length k9)).setCell ⟨w.heap.size, 0, none⟩ (.int .i64 0)).setCell ⟨w.heap.size, 1, none⟩ (.int .i64 0)) (w.heap.size) 2 _ _ _ hC
  have hS' : ((((y9.setCell ⟨w.heap.size + 1, 2, none⟩ (.slice a9 r9.1.length k9)).setCell ⟨w.heap.size, 0, none⟩ (.int .i64 0)).setCell ⟨w.heap.size, 1, none⟩ (.int .i64 0)).setCell ⟨w.heap.size, 2, none⟩ (.int .i64 0)).heap[w.heap.size + 1]? = some (.cells #[.slice a7 r7.1.length k7, .slice a8 r8.1.length k8, .slice a9 r9.1.length k9] 28 (0, 0)) := heap_set_far hS (by omega)
  have hG' := gb_set hG (b := w.heap.size) (by omega) 2 (.int .i64 0)
  have hA' := hA.setFar (b := w.heap.size) (by omega) (hfar.imp id fun q ad ha => by have := q ad ha; omega) 2 (.int .i64 0)
  have o1' := owns_set o1 (b := w.heap.size) (by omega) 2 (.int .i64 0)
  have o2' := owns_set o2 (b := w.heap.size) (by omega) 2 (.int .i64 0)
  have o3' := owns_set o3 (b := w.heap.size) (by omega) 2 (.int .i64 0)
  clear hC hS hG hA o1 o2 o3
  have hC := hC'
  have hS := hS'
  have hG := hG'
  have hA := hA'
  have o1 := o1'
  have o2 := o2'
  have o3 := o3'
  clear hC' hS' hG' hA' o1' o2' o3'
  have e8 := cell_heap (k := 3) (v := .int .i64 r3.1) hC rfl
  have e9 := blk_frozen (j := 3) hC
  have hC' : (((((y9.setCell ⟨w.heap.size + 1, 2, none⟩ (.slice a9 r9.1.length k9)).setCell ⟨w.heap.size, 0, none⟩ (.int .i64 0)).setCell ⟨w.heap.size, 1, none⟩ (.int .i64 0)).setCell ⟨w.heap.size, 2, none⟩ (.int .i64 0)).setCell ⟨w.heap.size, 3, none⟩ (.int .i64 0)).heap[w.heap.size]? = some (.cells #[.int .i64 0, .int .i64 0, .int .i64 0, .int .i64 0, .int .i64 r4.1, .int .i64 r5.1, .int .i64 r6.1] 23 (0, 0)) := heap_setCell_same ((((y9.setCell ⟨w.heap.size + 1, 2, none⟩ (.slice a9 r9.1.length k9)).setCell ⟨w.heap.size, 0, none⟩ (.int .i64 0)).setCell ⟨w.heap.size, 1, none⟩ (.int .i64 0)).setCell ⟨w.heap.size, 2, none⟩ (.int .i64 0)) (w.heap.size) 3 _ _ _ hC
  have hS' : (((((y9.setCell ⟨w.heap.size + 1, 2, none⟩ (.slice a9 r9.1.length k9)).setCell ⟨w.heap.size, 0, none⟩ (.int .i64 0)).setCell ⟨w.heap.size, 1, none⟩ (.int .i64 0)).setCell ⟨w.heap.size, 2, none⟩ (.int .i64 0)).setCell ⟨w.heap.size, 3, none⟩ (.int .i64 0)).heap[w.heap.size + 1]? = some (.cells #[.slice a7 r7.1.length k7, .slice a8 r8.1.length k8, .slice a9 r9.1.length k9] 28 (0, 0)) := heap_set_far hS (by omega)
  have hG' := gb_set hG (b := w.heap.size) (by omega) 3 (.int .i64 0)
  have hA' := hA.setFar (b := w.heap.size) (by omega) (hfar.imp id fun q ad ha => by have := q ad ha; omega) 3 (.int .i64 0)
  have o1' := owns_set o1 (b := w.heap.size) (by omega) 3 (.int .i64 0)
  have o2' := owns_set o2 (b := w.heap.size) (by omega) 3 (.int .i64 0)
  have o3' := owns_set o3 (b := w.heap.size) (by omega) 3 (.int .i64 0)
  clear hC hS hG hA o1 o2 o3
  have hC := hC'
  have hS := hS'
  have hG := hG'
  have hA := hA'
  have o1 := o1'
  have o2 := o2'
  have o3 := o3'
  clear hC' hS' hG' hA' o1' o2' o3'
  have e10 := cell_heap (k := 4) (v := .int .i64 r4.1) hC rfl
  have e11 := blk_frozen (j := 4) hC
  have hC' : ((((((y9.setCell ⟨w.heap.size + 1, 2, none⟩ (.slice a9 r9.1.length k9)).setCell ⟨w.heap.size, 0, none⟩ (.int .i64 0)).setCell ⟨w.heap.size, 1, none⟩ (.int .i64 0)).setCell ⟨w.heap.size, 2, none⟩ (.int .i64 0)).setCell ⟨w.heap.size, 3, none⟩ (.int .i64 0)).setCell ⟨w.heap.size, 4, none⟩ (.int .i64 0)).heap[w.heap.size]? = some (.cells #[.int .i64 0, .int .i64 0, .int .i64 0, .int .i64 0, .int .i64 0, .int .i64 r5.1, .int .i64 r6.1] 23 (0, 0)) := heap_setCell_same (((((y9.setCell ⟨w.heap.size + 1, 2, none⟩ (.slice a9 r9.1.length k9)).setCell ⟨w.heap.size, 0, none⟩ (.int .i64 0)).setCell ⟨w.heap.size, 1, none⟩ (.int .i64 0)).setCell ⟨w.heap.size, 2, none⟩ (.int .i64 0)).setCell ⟨w.heap.size, 3, none⟩ (.int .i64 0)) (w.heap.size) 4 _ _ _ hC
  have hS' : ((((((y9.setCell ⟨w.heap.size + 1, 2, none⟩ (.slice a9 r9.1.length k9)).setCell ⟨w.heap.size, 0, none⟩ (.int .i64 0)).setCell ⟨w.heap.size, 1, none⟩ (.int .i64 0)).setCell ⟨w.heap.size, 2, none⟩ (.int .i64 0)).setCell ⟨w.heap.size, 3, none⟩ (.int .i64 0)).setCell ⟨w.heap.size, 4, none⟩ (.int .i64 0)).heap[w.heap.size + 1]? = some (.cells #[.slice a7 r7.1.length k7, .slice a8 r8.1.length k8, .slice a9 r9.1.length k9] 28 (0, 0)) := heap_set_far hS (by omega)
  have hG' := gb_set hG (b := w.heap.size) (by omega) 4 (.int .i64 0)
  have hA' := hA.setFar (b := w.heap.size) (by omega) (hfar.imp id fun q ad ha => by have := q ad ha; omega) 4 (.int .i64 0)
  have o1' := owns_set o1 (b := w.heap.size) (by omega) 4 (.int .i64 0)
  have o2' := owns_set o2 (b := w.heap.size) (by omega) 4 (.int .i64 0)
  have o3' := owns_set o3 (b := w.heap.size) (by omega) 4 (.int .i64 0)
  clear hC hS hG hA o1 o2 o3
  have hC := hC'
  have hS := hS'
  have hG := hG'
  have hA := hA'
  have o1 := o1'
  have o2 := o2'
  have o3 := o3'
  clear hC' hS' hG' hA' o1' o2' o3'
  have e12 := cell_heap (k := 5) (v := .int .i64 r5.1) hC rfl
  have e13 := blk_frozen (j := 5) hC
  have hC' : (((((((y9.setCell ⟨w.heap.size + 1, 2, none⟩ (.slice a9 r9.1.length k9)).setCell ⟨w.heap.size, 0, none⟩ (.int .i64 0)).setCell ⟨w.heap.size, 1, none⟩ (.int .i64 0)).setCell ⟨w.heap.size, 2, none⟩ (.int .i64 0)).setCell ⟨w.heap.size, 3, none⟩ (.int .i64 0)).setCell ⟨w.heap.size, 4, none⟩ (.int .i64 0)).setCell ⟨w.heap.size, 5, none⟩ (.int .i64 0)).heap[w.heap.size]? = some (.cells #[.int .i64 0, .int .i64 0, .int .i64 0, .int .i64 0, .int .i64 0, .int .i64 0, .int .i64 r6.1] 23 (0, 0)) := heap_setCell_same ((((((y9.setCell ⟨w.heap.size + 1, 2, none⟩ (.slice a9 r9.1.length k9)).setCell ⟨w.heap.size, 0, none⟩ (.int .i64 0)).setCell ⟨w.heap.size, 1, none⟩ (.int .i64 0)).setCell ⟨w.heap.size, 2, none⟩ (.int .i64 0)).setCell ⟨w.heap.size, 3, none⟩ (.int .i64 0)).setCell ⟨w.heap.size, 4, none⟩ (.int .i64 0)) (w.heap.size) 5 _ _ _ hC
  have hS' : (((((((y9.setCell ⟨w.heap.size + 1, 2, none⟩ (.slice a9 r9.1.length k9)).setCell ⟨w.heap.size, 0, none⟩ (.int .i64 0)).setCell ⟨w.heap.size, 1, none⟩ (.int .i64 0)).setCell ⟨w.heap.size, 2, none⟩ (.int .i64 0)).setCell ⟨w.heap.size, 3, none⟩ (.int .i64 0)).setCell ⟨w.heap.size, 4, none⟩ (.int .i64 0)).setCell ⟨w.heap.size, 5, none⟩ (.int .i64 0)).heap[w.heap.size + 1]? = some (.cells #[.slice a7 r7.1.length k7, .slice a8 r8.1.length k8, .slice a9 r9.1.length k9] 28 (0, 0)) := heap_set_far hS (by omega)
  have hG' := gb_set hG (b := w.heap.size) (by omega) 5 (.int .i64 0)
  have hA' := hA.setFar (b := w.heap.size) (by omega) (hfar.imp id fun q ad ha => by have := q ad ha; omega) 5 (.int .i64 0)
  have o1' := owns_set o1 (b := w.heap.size) (by omega) 5 (.int .i64 0)
  have o2' := owns_set o2 (b := w.heap.size) (by omega) 5 (.int .i64 0)
  have o3' := owns_set o3 (b := w.heap.size) (by omega) 5 (.int .i64 0)
  clear hC hS hG hA o1 o2 o3
  have hC := hC'
  have hS := hS'
  have hG := hG'
  have hA := hA'
  have o1 := o1'
  have o2 := o2'
  have o3 := o3'
  clear hC' hS' hG' hA' o1' o2' o3'
  have e14 := cell_heap (k := 6) (v := .int .i64 r6.1) hC rfl
  have e15 := blk_frozen (j := 6) hC
  have hC' : ((((((((y9.setCell ⟨w.heap.size + 1, 2, none⟩ (.slice a9 r9.1.length k9)).setCell ⟨w.heap.size, 0, none⟩ (.int .i64 0)).setCell ⟨w.heap.size, 1, none⟩ (.int .i64 0)).setCell ⟨w.heap.size, 2, none⟩ (.int .i64 0)).setCell ⟨w.heap.size, 3, none⟩ (.int .i64 0)).setCell ⟨w.heap.size, 4, none⟩ (.int .i64 0)).setCell ⟨w.heap.size, 5, none⟩ (.int .i64 0)).setCell ⟨w.heap.size, 6, none⟩ (.int .i64 0)).heap[w.heap.size]? = some (.cells #[.int .i64 0, .int .i64 0, .int .i64 0, .int .i64 0, .int .i64 0, .int .i64 0, .int .i64 0] 23 (0, 0)) := heap_setCell_same (((((((y9.setCell ⟨w.heap.size + 1, 2, none⟩ (.slice a9 r9.1.length k9)).setCell ⟨w.heap.size, 0, none⟩ (.int .i64 0)).setCell ⟨w.heap.size, 1, none⟩ (.int .i64 0)).setCell ⟨w.heap.size, 2, none⟩ (.int .i64 0)).setCell ⟨w.heap.size, 3, none⟩ (.int .i64 0)).setCell ⟨w.heap.size, 4, none⟩ (.int .i64 0)).setCell ⟨w.heap.size, 5, none⟩ (.int .i64 0)) (w.heap.size) 6 _ _ _ hC
  have hS' : ((((((((y9.setCell ⟨w.heap.size + 1, 2, none⟩ (.slice a9 r9.1.length k9)).setCell ⟨w.heap.size, 0, none⟩ (.int .i64 0)).setCell ⟨w.heap.size, 1, none⟩ (.int .i64 0)).setCell ⟨w.heap.size, 2, none⟩ (.int .i64 0)).setCell ⟨w.heap.size, 3, none⟩ (.int .i64 0)).setCell ⟨w.heap.size, 4, none⟩ (.int .i64 0)).setCell ⟨w.heap.size, 5, none⟩ (.int .i64 0)).setCell ⟨w.heap.size, 6, none⟩ (.int .i64 0)).heap[w.heap.size + 1]? = some (.cells #[.slice a7 r7.1.length k7, .slice a8 r8.1.length k8, .slice a9 r9.1.length k9] 28 (0, 0)) := heap_set_far hS (by omega)
  have hG' := gb_set hG (b := w.heap.size) (by omega) 6 (.int .i64 0)
  have hA' := hA.setFar (b := w.heap.size) (by omega) (hfar.imp id fun q ad ha => by have := q ad ha; omega) 6 (.int .i64 0)
  have o1' := owns_set o1 (b := w.heap.size) (by omega) 6 (.int .i64 0)
  have o2' := owns_set o2 (b := w.heap.size) (by omega) 6 (.int .i64 0)
  have o3' := owns_set o3 (b := w.heap.size) (by omega) 6 (.int .i64 0)
  clear hC hS hG hA o1 o2 o3
  have hC := hC'
  have hS := hS'
  have hG := hG'
  have hA := hA'
  have o1 := o1'
  have o2 := o2'
  have o3 := o3'
  clear hC' hS' hG' hA' o1' o2' o3'
  have e16 := cell_heap (k := 0) (v := .slice a7 r7.1.length k7) hS rfl
  have e17 := blk_frozen (j := 0) hS
  have hS' : (((((((((y9.setCell ⟨w.heap.size + 1, 2, none⟩ (.slice a9 r9.1.length k9)).setCell ⟨w.heap.size, 0, none⟩ (.int .i64 0)).setCell ⟨w.heap.size, 1, none⟩ (.int .i64 0)).setCell ⟨w.heap.size, 2, none⟩ (.int .i64 0)).setCell ⟨w.heap.size, 3, none⟩ (.int .i64 0)).setCell ⟨w.heap.size, 4, none⟩ (.int .i64 0)).setCell ⟨w.heap.size, 5, none⟩ (.int .i64 0)).setCell ⟨w.heap.size, 6, none⟩ (.int .i64 0)).setCell ⟨w.heap.size + 1, 0, none⟩ (.slice none 0 0)).heap[w.heap.size + 1]? = some (.cells #[.slice none 0 0, .slice a8 r8.1.length k8, .slice a9 r9.1.length k9] 28 (0, 0)) := heap_setCell_same ((((((((y9.setCell ⟨w.heap.size + 1, 2, none⟩ (.slice a9 r9.1.length k9)).setCell ⟨w.heap.size, 0, none⟩ (.int .i64 0)).setCell ⟨w.heap.size, 1, none⟩ (.int .i64 0)).setCell ⟨w.heap.size, 2, none⟩ (.int .i64 0)).setCell ⟨w.heap.size, 3, none⟩ (.int .i64 0)).setCell ⟨w.heap.size, 4, none⟩ (.int .i64 0)).setCell ⟨w.heap.size, 5, none⟩ (.int .i64 0)).setCell ⟨w.heap.size, 6, none⟩ (.int .i64 0)) (w.heap.size + 1) 0 _ _ _ hS
  have hC' : (((((((((y9.setCell ⟨w.heap.size + 1, 2, none⟩ (.slice a9 r9.1.length k9)).setCell ⟨w.heap.size, 0, none⟩ (.int .i64 0)).setCell ⟨w.heap.size, 1, none⟩ (.int .i64 0)).setCell ⟨w.heap.size, 2, none⟩ (.int .i64 0)).setCell ⟨w.heap.size, 3, none⟩ (.int .i64 0)).setCell ⟨w.heap.size, 4, none⟩ (.int .i64 0)).setCell ⟨w.heap.size, 5, none⟩ (.int .i64 0)).setCell ⟨w.heap.size, 6, none⟩ (.int .i64 0)).setCell ⟨w.heap.size + 1, 0, none⟩ (.slice none 0 0)).heap[w.heap.size]? = some (.cells #[.int .i64 0, .int .i64 0, .int .i64 0, .int .i64 0, .int .i64 0, .int .i64 0, .int .i64 0] 23 (0, 0)) := heap_set_far hC (by omega)
  have hG' := gb_set hG (b := w.heap.size + 1) (by omega) 0 (.slice none 0 0)
  have hA' := hA.setFar (b := w.heap.size + 1) (by omega) (hfar.imp id fun q ad ha => by have := q ad ha; omega) 0 (.slice none 0 0)
  have o1' := owns_set o1 (b := w.heap.size + 1) (by omega) 0 (.slice none 0 0)
  have o2' := owns_set o2 (b := w.heap.size + 1) (by omega) 0 (.slice none 0 0)
  have o3' := owns_set o3 (b := w.heap.size + 1) (by omega) 0 (.slice none 0 0)
  clear hC hS hG hA o1 o2 o3
  have hC := hC'
  have hS := hS'
  have hG := hG'
  have hA := hA'
  have o1 := o1'
  have o2 := o2'
  have o3 := o3'
  clear hC' hS' hG' hA' o1' o2' o3'
  have e18 := cell_heap (k := 1) (v := .slice a8 r8.1.length k8) hS rfl
  have e19 := blk_frozen (j := 1) hS
  have hS' : ((((((((((y9.setCell ⟨w.heap.size + 1, 2, none⟩ (.slice a9 r9.1.length k9)).setCell ⟨w.heap.size, 0, none⟩ (.int .i64 0)).setCell ⟨w.heap.size, 1, none⟩ (.int .i64 0)).setCell ⟨w.heap.size, 2, none⟩ (.int .i64 0)).setCell ⟨w.heap.size, 3, none⟩ (.int .i64 0)).setCell ⟨w.heap.size, 4, none⟩ (.int .i64 0)).setCell ⟨w.heap.size, 5, none⟩ (.int .i64 0)).setCell ⟨w.heap.size, 6, none⟩ (.int .i64 0)).setCell ⟨w.heap.size + 1, 0, none⟩ (.slice none 0 0)).setCell ⟨w.heap.size + 1, 1, none⟩ (.slice none 0 0)).heap[w.heap.size + 1]? = some (.cells #[.slice none 0 0, .slice none 0 0, .slice a9 r9.1.length k9] 28 (0, 0)) := heap_setCell_same (((((((((y9.setCell ⟨w.heap.size + 1, 2, none⟩ (.slice a9 r9.1.length k9)).setCell ⟨w.heap.size, 0, none⟩ (.int .i64 0)).setCell ⟨w.heap.size, 1, none⟩ (.int .i64 0)).setCell ⟨w.heap.size, 2, none⟩ (.int .i64 0)).setCell ⟨w.heap.size, 3, none⟩ (.int .i64 0)).setCell ⟨w.heap.size, 4, none⟩ (.int .i64 0)).setCell ⟨w.heap.size, 5, none⟩ (.int .i64 0)).setCell ⟨w.heap.size, 6, none⟩ (.int .i64 0)).setCell ⟨w.heap.size + 1, 0, none⟩ (.slice none 0 0)) (w.heap.size + 1) 1 _ _ _ hS
  have hC' : ((((((((((y9.setCell ⟨w.heap.size + 1, 2, none⟩ (.slice a9 r9.1.length k9)).setCell ⟨w.heap.size, 0, none⟩ (.int .i64 0)).setCell ⟨w.heap.size, 1, none⟩ (.int .i64 0)).setCell ⟨w.heap.size, 2, none⟩ (.int .i64 0)).setCell ⟨w.heap.size, 3, none⟩ (.int .i64 0)).setCell ⟨w.heap.size, 4, none⟩ (.int .i64 0)).setCell ⟨w.heap.size, 5, none⟩ (.int .i64 0)).setCell ⟨w.heap.size, 6, none⟩ (.int .i64 0)).setCell ⟨w.heap.size + 1, 0, none⟩ (.slice none 0 0)).setCell ⟨w.heap.size + 1, 1, none⟩ (.slice none 0 0)).heap[w.heap.size]? = some (.cells #[.int .i64 0, .int .i64 0, .int .i64 0, .int .i64 0, .int .i64 0, .int .i64 0, .int .i64 0] 23 (0, 0)) := heap_set_far hC (by omega)
  have hG' := gb_set hG (b := w.heap.size + 1) (by omega) 1 (.slice none 0 0)
  have hA' := hA.setFar (b := w.heap.size + 1) (by omega) (hfar.imp id fun q ad ha => by have := q ad ha; omega) 1 (.slice none 0 0)
  have o1' := owns_set o1 (b := w.heap.size + 1) (by omega) 1 (.slice none 0 0)
  have o2' := owns_set o2 (b := w.heap.size + 1) (by omega) 1 (.slice none 0 0)
  have o3' := owns_set o3 (b := w.heap.size + 1) (by omega) 1 (.slice none 0 0)
  clear hC hS hG hA o1 o2 o3
  have hC := hC'
  have hS := hS'
  have hG := hG'
  have hA := hA'
  have o1 := o1'
  have o2 := o2'
  have o3 := o3'
  clear hC' hS' hG' hA' o1' o2' o3'
  have e20 := cell_heap (k := 2) (v := .slice a9 r9.1.length k9) hS rfl
  have e21 := blk_frozen (j := 2) hS
  have hS' : (((((((((((y9.setCell ⟨w.heap.size + 1, 2, none⟩ (.slice a9 r9.1.length k9)).setCell ⟨w.heap.size, 0, none⟩ (.int .i64 0)).setCell ⟨w.heap.size, 1, none⟩ (.int .i64 0)).setCell ⟨w.heap.size, 2, none⟩ (.int .i64 0)).setCell ⟨w.heap.size, 3, none⟩ (.int .i64 0)).setCell ⟨w.heap.size, 4, none⟩ (.int .i64 0)).setCell ⟨w.heap.size, 5, none⟩ (.int .i64 0)).setCell ⟨w.heap.size, 6, none⟩ (.int .i64 0)).setCell ⟨w.heap.size + 1, 0, none⟩ (.slice none 0 0)).setCell ⟨w.heap.size + 1, 1, none⟩ (.slice none 0 0)).setCell ⟨w.heap.size + 1, 2, none⟩ (.slice none 0 0)).heap[w.heap.size + 1]? = some (.cells #[.slice none 0 0, .slice none 0 0, .slice none 0 0] 28 (0, 0)) := heap_setCell_same ((((((((((y9.setCell ⟨w.heap.size + 1, 2, none⟩ (.slice a9 r9.1.length k9)).setCell ⟨w.heap.size, 0, none⟩ (.int .i64 0)).setCell ⟨w.heap.size, 1, none⟩ (.int .i64 0)).setCell ⟨w.heap.size, 2, none⟩ (.int .i64 0)).setCell ⟨w.heap.size, 3, none⟩ (.int .i64 0)).setCell ⟨w.heap.size, 4, none⟩ (.int .i64 0)).setCell ⟨w.heap.size, 5, none⟩ (.int .i64 0)).setCell ⟨w.heap.size, 6, none⟩ (.int .i64 0)).setCell ⟨w.heap.size + 1, 0, none⟩ (.slice none 0 0)).setCell ⟨w.heap.size + 1, 1, none⟩ (.slice none 0 0)) (w.heap.size + 1) 2 _ _ _ hS
  have hC' : (((((((((((y9.setCell ⟨w.heap.size + 1, 2, none⟩ (.slice a9 r9.1.length k9)).setCell ⟨w.heap.size, 0, none⟩ (.int .i64 0)).setCell ⟨w.heap.size, 1, none⟩ (.int .i64 0)).setCell ⟨w.heap.size, 2, none⟩ (.int .i64 0)).setCell ⟨w.heap.size, 3, none⟩ (.int .i64 0)).setCell ⟨w.heap.size, 4, none⟩ (.int .i64 0)).setCell ⟨w.heap.size, 5, none⟩ (.int .i64 0)).setCell ⟨w.heap.size, 6, none⟩ (.int .i64 0)).setCell ⟨w.heap.size + 1, 0, none⟩ (.slice none 0 0)).setCell ⟨w.heap.size + 1, 1, none⟩ (.slice none 0 0)).setCell ⟨w.heap.size + 1, 2, none⟩ (.slice none 0 0)).heap[w.heap.size]? = some (.cells #[.int .i64 0, .int .i64 0, .int .i64 0, .int .i64 0, .int .i64 0, .int .i64 0, .int .i64 0] 23 (0, 0)) := heap_set_far hC (by omega)
  have hG' := gb_set hG (b := w.heap.size + 1) (by omega) 2 (.slice none 0 0)
  have hA' := hA.setFar (b := w.heap.size + 1) (by omega) (hfar.imp id fun q ad ha => by have := q ad ha; omega) 2 (.slice none 0 0)
  have o1' := owns_set o1 (b := w.heap.size + 1) (by omega) 2 (.slice none 0 0)
  have o2' := owns_set o2 (b := w.heap.size + 1) (by omega) 2 (.slice none 0 0)
  have o3' := owns_set o3 (b := w.heap.size + 1) (by omega) 2 (.slice none 0 0)
  clear hC hS hG hA o1 o2 o3
  have hC := hC'
  have hS := hS'
  have hG := hG'
  have hA := hA'
  have o1 := o1'
  have o2 := o2'
  have o3 := o3'
  clear hC' hS' hG' hA' o1' o2' o3'
  go_wp2
  refine bodyPost_ret (results_cct rfl _ _ w.heap.size 23 #[.int .i64 0, .int .i64 0, .int .i64 0, .int .i64 0, .int .i64 0, .int .i64 0, .int .i64 0] (0, 0) _ (w.heap.size + 1) 28 #[.slice none 0 0, .slice none 0 0, .slice none 0 0] (0, 0) _ rfl hC Tryz.underlying23 rfl (by kernel_rfl) rfl hS Tryz.underlying28 rfl (by kernel_rfl)) rfl ?_
  unfold rdPost
  rw [HW.out]
  exact ⟨⟨none, 0, 0⟩, ⟨none, 0, 0⟩, ⟨none, 0, 0⟩, rfl, ⟨SlR.nil _ _ _, SlR.nil _ _ _, SlR.nil _ _ _⟩, gn_below hG⟩
 | false =>
  rw [hbd] at c2
  obtain ⟨E, hE⟩ : ∃ E, E = soupE ⟨r0.1, r1.1, r2.1, r3.1, r4.1, r5.1, r6.1⟩ ⟨r7.1, r8.1, r9.1⟩ := ⟨_, rfl⟩
  have hs7 : SlR triC 10 (y9.setCell ⟨w.heap.size + 1, 2, none⟩ (.slice a9 r9.1.length k9)) a7 r7.1.length k7 r7.1 := by obtain ⟨x1, x2, h1, h2⟩ := SlR.of_owns (f := triC) (sz := 10) (fun _ => rfl) rfl o1; cases h1; exact h2
  have hs8 : SlR bxC 8 (y9.setCell ⟨w.heap.size + 1, 2, none⟩ (.slice a9 r9.1.length k9)) a8 r8.1.length k8 r8.1 := by obtain ⟨x1, x2, h1, h2⟩ := SlR.of_owns (f := bxC) (sz := 8) (fun _ => rfl) rfl o2; cases h1; exact h2
  have hs9 : SlR hpC 10 (y9.setCell ⟨w.heap.size + 1, 2, none⟩ (.slice a9 r9.1.length k9)) a9 r9.1.length k9 r9.1 := by obtain ⟨x1, x2, h1, h2⟩ := SlR.of_owns (f := hpC) (sz := 10) (fun _ => rfl) rfl o3; cases h1; exact h2
  have CK := soupcheck_any ⟨r0.1, r1.1, r2.1, r3.1, r4.1, r5.1, r6.1⟩ ⟨a7, r7.1.length, k7⟩ ⟨a8, r8.1.length, k8⟩ ⟨a9, r9.1.length, k9⟩ ⟨r7.1, r8.1, r9.1⟩ (y9.setCell ⟨w.heap.size + 1, 2, none⟩ (.slice a9 r9.1.length k9)) ⟨hs7, hs8, hs9⟩
  rw [← hE] at CK HV1
  unfold cfgV soupV SHead.v at CK
  simp only at CK
  clear hE hs7 hs8 hs9
  have e2 := cell_heap (k := 0) (v := .int .i64 r0.1) hC rfl
  have e3 := blk_frozen (j := 0) hC
  have e4 := cell_heap (k := 1) (v := .int .i64 r1.1) hC rfl
  have e5 := blk_frozen (j := 1) hC
  have e6 := cell_heap (k := 2) (v := .int .i64 r2.1) hC rfl
  have e7 := blk_frozen (j := 2) hC
  have e8 := cell_heap (k := 3) (v := .int .i64 r3.1) hC rfl
  have e9 := blk_frozen (j := 3) hC
  have e10 := cell_heap (k := 4) (v := .int .i64 r4.1) hC rfl
  have e11 := blk_frozen (j := 4) hC
  have e12 := cell_heap (k := 5) (v := .int .i64 r5.1) hC rfl
  have e13 := blk_frozen (j := 5) hC
  have e14 := cell_heap (k := 6) (v := .int .i64 r6.1) hC rfl
  have e15 := blk_frozen (j := 6) hC
  have e16 := cell_heap (k := 0) (v := .slice a7 r7.1.length k7) hS rfl
  have e17 := blk_frozen (j := 0) hS
  have e18 := cell_heap (k := 1) (v := .slice a8 r8.1.length k8) hS rfl
  have e19 := blk_frozen (j := 1) hS
  have e20 := cell_heap (k := 2) (v := .slice a9 r9.1.length k9) hS rfl
  have e21 := blk_frozen (j := 2) hS
  go_wp2_with fail
  refine CK.mono ?_
  rintro e yk ⟨rfl, hbk⟩
  clear CK
  clear e0 e1 e2 e3 e4 e5 e6 e7 e8 e9 e10 e11 e12 e13 e14 e15 e16 e17 e18 e19 e20 e21
  have hC' := (hbk.block _ (Array.getElem?_eq_some_iff.1 hC).1).trans hC
  have hS' := (hbk.block _ (Array.getElem?_eq_some_iff.1 hS).1).trans hS
  have hR' := (hbk.block _ hA.lt).trans hA.blk
  have hgn : World.grownBy (y9.setCell ⟨w.heap.size + 1, 2, none⟩ (.slice a9 r9.1.length k9)) yk none := ⟨hbk.os, hbk.tape, hbk.output, hbk.size, fun i hi _ => hbk.block i hi⟩
  have hG' := hG.trans hgn
  have o1' := o1.kept hgn (by cases Value.ownBlock (.slice a7 r7.1.length k7) <;> simp)
  have o2' := o2.kept hgn (by cases Value.ownBlock (.slice a8 r8.1.length k8) <;> simp)
  have o3' := o3.kept hgn (by cases Value.ownBlock (.slice a9 r9.1.length k9) <;> simp)
  clear hC hS hG o1 o2 o3 hA hgn hbk c2
  have hC := hC'
  have hS := hS'
  have hG := hG'
  have o1 := o1'
  have o2 := o2'
  have o3 := o3'
  clear hC' hS' hG' o1' o2' o3'
  by_cases hE0 : E = 0
  rotate_left
  ·
   have hd : (E != 0) = true := by simpa using hE0
   have HW : Hid (V = (cfg0, sou0, 0, 200)) := by show _ = _; rw [HV1.out, if_pos (.inr hE0)]
   have e0 := cell_heap (k := 0) (v := .int .i64 r0.1) hC rfl
   have e1 := blk_frozen (j := 0) hC
   have hC' : (yk.setCell ⟨w.heap.size, 0, none⟩ (.int .i64 0)).heap[w.heap.size]? = some (.cells #[.int .i64 0, .int .i64 r1.1, .int .i64 r2.1, .int .i64 r3.1, .int .i64 r4.1, .int .i64 r5.1, .int .i64 r6.1] 23 (0, 0)) := heap_setCell_same yk (w.heap.size) 0 _ _ _ hC
   have hS' : (yk.setCell ⟨w.heap.size, 0, none⟩ (.int .i64 0)).heap[w.heap.size + 1]? = some (.cells #[.slice a7 r7.1.length k7, .slice a8 r8.1.length k8, .slice a9 r9.1.length k9] 28 (0, 0)) := heap_set_far hS (by omega)
   have hG' := gb_set hG (b := w.heap.size) (by omega) 0 (.int .i64 0)
   have o1' := owns_set o1 (b := w.heap.size) (by omega) 0 (.int .i64 0)
   have o2' := owns_set o2 (b := w.heap.size) (by omega) 0 (.int .i64 0)
   have o3' := owns_set o3 (b := w.heap.size) (by omega) 0 (.int .i64 0)
   clear hC hS hG o1 o2 o3
   have hC := hC'
   have hS := hS'
   have hG := hG'
   have o1 := o1'
   have o2 := o2'
   have o3 := o3'
   clear hC' hS' hG' o1' o2' o3'
   have e2 := cell_heap (k := 1) (v := .int .i64 r1.1) hC rfl
   have e3 := blk_frozen (j := 1) hC
   have hC' : ((yk.setCell ⟨w.heap.size, 0, none⟩ (.int .i64 0)).setCell ⟨w.heap.size, 1, none⟩ (.int .i64 0)).heap[w.heap.size]? = some (.cells #[.int .i64 0, .int .i64 0, .int .i64 r2.1, .int .i64 r3.1, .int .i64 r4.1, .int .i64 r5.1, .int .i64 r6.1] 23 (0, 0)) := heap_setCell_same (yk.setCell ⟨w.heap.size, 0, none⟩ (.int .i64 0)) (w.heap.size) 1 _ _ _ hC
   have hS' : ((yk.setCell ⟨w.heap.size, 0, none⟩ (.int .i64 0)).setCell ⟨w.heap.size, 1, none⟩ (.int .i64 0)).heap[w.heap.size + 1]? = some (.cells #[.slice a7 r7.1.length k7, .slice a8 r8.1.length k8, .slice a9 r9.1.length k9] 28 (0, 0)) := heap_set_far hS (by omega)
   have hG' := gb_set hG (b := w.heap.size) (by omega) 1 (.int .i64 0)
   have o1' := owns_set o1 (b := w.heap.size) (by omega) 1 (.int .i64 0)
   have o2' := owns_set o2 (b := w.heap.size) (by omega) 1 (.int .i64 0)
   have o3' := owns_set o3 (b := w.heap.size) (by omega) 1 (.int .i64 0)
   clear hC hS hG o1 o2 o3
   have hC := hC'
   have hS := hS'
   have hG := hG'
   have o1 := o1'
   have o2 := o2'
   have o3 := o3'
   clear hC' hS' hG' o1' o2' o3'
   have e4 := cell_heap (k := 2) (v := .int .i64 r2.1) hC rfl
   have e5 := blk_frozen (j := 2) hC
   have hC' : (((yk.setCell ⟨w.heap.size, 0, none⟩ (.int .i64 0)).setCell ⟨w.heap.size, 1, none⟩ (.int .i64 0)).setCell ⟨w.heap.size, 2, none⟩ (.int .i64 0)).heap[w.heap.size]? = some (.cells #[.int .i64 0, .int .i64 0, .int .i64 0, .int .i64 r3.1, .int .i64 r4.1, .int .i64 r5.1, .int .i64 r6.1] 23 (0, 0)) := heap_setCell_same ((yk.setCell ⟨w.heap.size, 0, none⟩ (.int .i64 0)).setCell ⟨w.heap.size, 1, none⟩ (.int .i64 0)) (w.heap.size) 2 _ _ _ hC
   have hS' : (((yk.setCell ⟨w.heap.size, 0, none⟩ (.int .i64 0)).setCell ⟨w.heap.size, 1, none⟩ (.int .i64 0)).setCell ⟨w.heap.size, 2, none⟩ (.int .i64 0)).heap[w.heap.size + 1]? = some (.cells #[.slice a7 r7.1.length k7, .slice a8 r8.1.length k8, .slice a9 r9.1.length k9] 28 (0, 0)) := heap_set_far hS (by omega)
   have hG' := gb_set hG (b := w.heap.size) (by omega) 2 (.int .i64 0)
   have o1' := owns_set o1 (b := w.heap.size) (by omega) 2 (.int .i64 0)
   have o2' := owns_set o2 (b := w.heap.size) (by omega) 2 (.int .i64 0)
   have o3' := owns_set o3 (b := w.heap.size) (by omega) 2 (.int .i64 0)
   clear hC hS hG o1 o2 o3
   have hC := hC'
   have hS := hS'
   have hG := hG'
   have o1 := o1'
   have o2 := o2'
   have o3 := o3'
   clear hC' hS' hG' o1' o2' o3'
   have e6 := cell_heap (k := 3) (v := .int .i64 r3.1) hC rfl
   have e7 := blk_frozen (j := 3) hC
   have hC' : ((((yk.setCell ⟨w.heap.size, 0, none⟩ (.int .i64 0)).setCell ⟨w.heap.size, 1, none⟩ (.int .i64 0)).setCell ⟨w.heap.size, 2, none⟩ (.int .i64 0)).setCell ⟨w.heap.size, 3, none⟩ (.int .i64 0)).heap[w.heap.size]? = some (.cells #[.int .i64 0, .int .i64 0, .int .i64 0, .int .i64 0, .int .i64 r4.1, .int .i64 r5.1, .int .i64 r6.1] 23 (0, 0)) := heap_setCell_same (((yk.setCell ⟨w.heap.size, 0, none⟩ (.int .i64 0)).setCell ⟨w.heap.size, 1, none⟩ (.int .i64 0)).setCell ⟨w.heap.size, 2, none⟩ (.int .i64 0)) (w.heap.size) 3 _ _ _ hC
   have hS' : ((((yk.setCell ⟨w.heap.size, 0, none⟩ (.int .i64 0)).setCell ⟨w.heap.size, 1, none⟩ (.int .i64 0)).setCell ⟨w.heap.size, 2, none⟩ (.int .i64 0)).setCell ⟨w.heap.size, 3, none⟩ (.int .i64 0)).heap[w.heap.size + 1]? = some (.cells #[.slice a7 r7.1.length k7, .slice a8 r8.1.length k8, .slice a9 r9.1.length k9] 28 (0, 0)) := heap_set_far hS (by omega)
   have hG' := gb_set hG (b := w.heap.size) (by omega) 3 (.int .i64 0)
   have o1' := owns_set o1 (b := w.heap.size) (by omega) 3 (.int .i64 0)
   have o2' := owns_set o2 (b := w.heap.size) (by omega) 3 (.int .i64 0)
   have o3' := owns_set o3 (b := w.heap.size) (by omega) 3 (.int .i64 0)
   clear hC hS hG o1 o2 o3
   have hC := hC'
   have hS := hS'
   have hG := hG'
   have o1 := o1'
   have o2 := o2'
   have o3 := o3'
   clear hC' hS' hG' o1' o2' o3'
   have e8 := cell_heap (k := 4) (v := .int .i64 r4.1) hC rfl
   have e9 := blk_frozen (j := 4) hC
   have hC' : (((((yk.setCell ⟨w.heap.size, 0, none⟩ (.int .i64 0)).setCell ⟨w.heap.size, 1, none⟩ (.int .i64 0)).setCell ⟨w.heap.size, 2, none⟩ (.int .i64 0)).setCell ⟨w.heap.size, 3, none⟩ (.int .i64 0)).setCell ⟨w.heap.size, 4, none⟩ (.int .i64 0)).heap[w.heap.size]? = some (.cells #[.int .i64 0, .int .i64 0, .int .i64 0, .int .i64 0, .int .i64 0, .int .i64 r5.1, .int .i64 r6.1] 23 (0, 0)) := heap_setCell_same ((((yk.setCell ⟨w.heap.size, 0, none⟩ (.int .i64 0)).setCell ⟨w.heap.size, 1, none⟩ (.int .i64 0)).setCell ⟨w.heap.size, 2, none⟩ (.int .i64 0)).setCell ⟨w.heap.size, 3, none⟩ (.int .i64 0)) (w.heap.size) 4 _ _ _ hC
   have hS' : (((((yk.setCell ⟨w.heap.size, 0, none⟩ (.int .i64 0)).setCell ⟨w.heap.size, 1, none⟩ (.int .i64 0)).setCell ⟨w.heap.size, 2, none⟩ (.int .i64 0)).setCell ⟨w.heap.size, 3, none⟩ (.int .i64 0)).setCell ⟨w.heap.size, 4, none⟩ (.int .i64 0)).heap[w.heap.size + 1]? = some (.cells #[.slice a7 r7.1.length k7, .slice a8 r8.1.length k8, .slice a9 r9.1.length k9] 28 (0, 0)) := heap_set_far hS (by omega)
   have hG' := gb_set hG (b := w.heap.size) (by omega) 4 (.int .i64 0)
   have o1' := owns_set o1 (b := w.heap.size) (by omega) 4 (.int .i64 0)
   have o2' := owns_set o2 (b := w.heap.size) (by omega) 4 (.int .i64 0)
   have o3' := owns_set o3 (b := w.heap.size) (by omega) 4 (.int .i64 0)
   clear hC hS hG o1 o2 o3
   have hC := hC'
   have hS := hS'
   have hG := hG'
   have o1 := o1'
   have o2 := o2'
   have o3 := o3'
   clear hC' hS' hG' o1' o2' o3'
   have e10 := cell_heap (k := 5) (v := .int .i64 r5.1) hC rfl
   have e11 := blk_frozen (j := 5) hC
   have hC' : ((((((yk.setCell ⟨w.heap.size, 0, none⟩ (.int .i64 0)).setCell ⟨w.heap.size, 1, none⟩ (.int .i64 0)).setCell ⟨w.heap.size, 2, none⟩ (.int .i64 0)).setCell ⟨w.heap.size, 3, none⟩ (.int .i64 0)).setCell ⟨w.heap.size, 4, none⟩ (.int .i64 0)).setCell ⟨w.heap.size, 5, none⟩ (.int .i64 0)).heap[w.heap.size]? = some (.cells #[.int .i64 0, .int .i64 0, .int .i64 0, .int .i64 0, .int .i64 0, .int .i64 0, .int .i64 r6.1] 23 (0, 0)) := heap_setCell_same (((((yk.setCell ⟨w.heap.size, 0, none⟩ (.int .i64 0)).setCell ⟨w.heap.size, 1, none⟩ (.int .i64 0)).setCell ⟨w.heap.size, 2, none⟩ (.int .i64 0)).setCell ⟨w.heap.size, 3, none⟩ (.int .i64 0)).setCell ⟨w.heap.size, 4, none⟩ (.int .i64 0)) (w.heap.size) 5 _ _ _ hC
   have hS' : ((((((yk.setCell ⟨w.heap.size, 0, none⟩ (.int .i64 0)).setCell ⟨w.heap.size, 1, none⟩ (.int .i64 0)).setCell ⟨w.heap.size, 2, none⟩ (.int .i64 0)).setCell ⟨w.heap.size, 3, none⟩ (.int .i64 0)).setCell ⟨w.heap.size, 4, none⟩ (.int .i64 0)).setCell ⟨w.heap.size, 5, none⟩ (.int .i64 0)).heap[w.heap.size + 1]? = some (.cells #[.slice a7 r7.1.length k7, .slice a8 r8.1.length k8, .slice a9 r9.1.length k9] 28 (0, 0)) := heap_set_far hS (by omega)
   have hG' := gb_set hG (b := w.heap.size) (by omega) 5 (.int .i64 0)
   have o1' := owns_set o1 (b := w.heap.size) (by omega) 5 (.int .i64 0)
   have o2' := owns_set o2 (b := w.heap.size) (by omega) 5 (.int .i64 0)
   have o3' := owns_set o3 (b := w.heap.size) (by omega) 5 (.int .i64 0)
   clear hC hS hG o1 o2 o3
   have hC := hC'
   have hS := hS'
   have hG := hG'
   have o1 := o1'
   have o2 := o2'
   have o3 := o3'
   clear hC' hS' hG' o1' o2' o3'
   have e12 := cell_heap (k := 6) (v := .int .i64 r6.1) hC rfl
   have e13 := blk_frozen (j := 6) hC
   have hC' : (((((((yk.setCell ⟨w.heap.size, 0, none⟩ (.int .i64 0)).setCell ⟨w.heap.size, 1, none⟩ (.int .i64 0)).setCell ⟨w.heap.size, 2, none⟩ (.int .i64 0)).setCell ⟨w.heap.size, 3, none⟩ (.int .i64 0)).setCell ⟨w.heap.size, 4, none⟩ (.int .i64 0)).setCell ⟨w.heap.size, 5, none⟩ (.int .i64 0)).setCell ⟨w.heap.size, 6, none⟩ (.int .i64 0)).heap[w.heap.size]? = some (.cells #[.int .i64 0, .int .i64 0, .int .i64 0, .int .i64 0, .int .i64 0, .int .i64 0, .int .i64 0] 23 (0, 0)) := heap_setCell_same ((((((yk.setCell ⟨w.heap.size, 0, none⟩ (.int .i64 0)).setCell ⟨w.heap.size, 1, none⟩ (.int .i64 0)).setCell ⟨w.heap.size, 2, none⟩ (.int .i64 0)).setCell ⟨w.heap.size, 3, none⟩ (.int .i64 0)).setCell ⟨w.heap.size, 4, none⟩ (.int .i64 0)).setCell ⟨w.heap.size, 5, none⟩ (.int .i64 0)) (w.heap.size) 6 _ _ _ hC
   have hS' : (((((((yk.setCell ⟨w.heap.size, 0, none⟩ (.int .i64 0)).setCell ⟨w.heap.size, 1, none⟩ (.int .i64 0)).setCell ⟨w.heap.size, 2, none⟩ (.int .i64 0)).setCell ⟨w.heap.size, 3, none⟩ (.int .i64 0)).setCell ⟨w.heap.size, 4, none⟩ (.int .i64 0)).setCell ⟨w.heap.size, 5, none⟩ (.int .i64 0)).setCell ⟨w.heap.size, 6, none⟩ (.int .i64 0)).heap[w.heap.size + 1]? = some (.cells #[.slice a7 r7.1.length k7, .slice a8 r8.1.length k8, .slice a9 r9.1.length k9] 28 (0, 0)) := heap_set_far hS (by omega)
   have hG' := gb_set hG (b := w.heap.size) (by omega) 6 (.int .i64 0)
   have o1' := owns_set o1 (b := w.heap.size) (by omega) 6 (.int .i64 0)
   have o2' := owns_set o2 (b := w.heap.size) (by omega) 6 (.int .i64 0)
   have o3' := owns_set o3 (b := w.heap.size) (by omega) 6 (.int .i64 0)
   clear hC hS hG o1 o2 o3
   have hC := hC'
   have hS := hS'
   have hG := hG'
   have o1 := o1'
   have o2 := o2'
   have o3 := o3'
   clear hC' hS' hG' o1' o2' o3'
   have e14 := cell_heap (k := 0) (v := .slice a7 r7.1.length k7) hS rfl
   have e15 := blk_frozen (j := 0) hS
   have hS' : ((((((((yk.setCell ⟨w.heap.size, 0, none⟩ (.int .i64 0)).setCell ⟨w.heap.size, 1, none⟩ (.int .i64 0)).setCell ⟨w.heap.size, 2, none⟩ (.int .i64 0)).setCell ⟨w.heap.size, 3, none⟩ (.int .i64 0)).setCell ⟨w.heap.size, 4, none⟩ (.int .i64 0)).setCell ⟨w.heap.size, 5, none⟩ (.int .i64 0)).setCell ⟨w.heap.size, 6, none⟩ (.int .i64 0)).setCell ⟨w.heap.size + 1, 0, none⟩ (.slice none 0 0)).heap[w.heap.size + 1]? = some (.cells #[.slice none 0 0, .slice a8 r8.1.length k8, .slice a9 r9.1.length k9] 28 (0, 0)) := heap_setCell_same (((((((yk.setCell ⟨w.heap.size, 0, none⟩ (.int .i64 0)).setCell ⟨w.heap.size, 1, none⟩ (.int .i64 0)).setCell ⟨w.heap.size, 2, none⟩ (.int .i64 0)).setCell ⟨w.heap.size, 3, none⟩ (.int .i64 0)).setCell ⟨w.heap.size, 4, none⟩ (.int .i64 0)).setCell ⟨w.heap.size, 5, none⟩ (.int .i64 0)).setCell ⟨w.heap.size, 6, none⟩ (.int .i64 0)) (w.heap.size + 1) 0 _ _ _ hS
   have hC' : ((((((((yk.setCell ⟨w.heap.size, 0, none⟩ (.int .i64 0)).setCell ⟨w.heap.size, 1, none⟩ (.int .i64 0)).setCell ⟨w.heap.size, 2, none⟩ (.int .i64 0)).setCell ⟨w.heap.size, 3, none⟩ (.int .i64 0)).setCell ⟨w.heap.size, 4, none⟩ (.int .i64 0)).setCell ⟨w.heap.size, 5, none⟩ (.int .i64 0)).setCell ⟨w.heap.size, 6, none⟩ (.int .i64 0)).setCell ⟨w.heap.size + 1, 0, none⟩ (.slice none 0 0)).heap[w.heap.size]? = some (.cells #[.int .i64 0, .int .i64 0, .int .i64 0, .int .i64 0, .int .i64 0, .int .i64 0, .int .i64 0] 23 (0, 0)) := heap_set_far hC (by omega)
   have hG' := gb_set hG (b := w.heap.size + 1) (by omega) 0 (.slice none 0 0)
   have o1' := owns_set o1 (b := w.heap.size + 1) (by omega) 0 (.slice none 0 0)
   have o2' := owns_set o2 (b := w.heap.size + 1) (by omega) 0 (.slice none 0 0)
   have o3' := owns_set o3 (b := w.heap.size + 1) (by omega) 0 (.slice none 0 0)
   clear hC hS hG o1 o2 o3
   have hC := hC'
   have hS := hS'
   have hG := hG'
   have o1 := o1'
   have o2 := o2'
   have o3 := o3'
   clear hC' hS' hG' o1' o2' o3'
   have e16 := cell_heap (k := 1) (v := .slice a8 r8.1.length k8) hS rfl
   have e17 := blk_frozen (j := 1) hS
   have hS' : (((((((((yk.setCell ⟨w.heap.size, 0, none⟩ (.int .i64 0)).setCell ⟨w.heap.size, 1, none⟩ (.int .i64 0)).setCell ⟨w.heap.size, 2, none⟩ (.int .i64 0)).setCell ⟨w.heap.size, 3, none⟩ (.int .i64 0)).setCell ⟨w.heap.size, 4, none⟩ (.int .i64 0)).setCell ⟨w.heap.size, 5, none⟩ (.int .i64 0)).setCell ⟨w.heap.size, 6, none⟩ (.int .i64 0)).setCell ⟨w.heap.size + 1, 0, none⟩ (.slice none 0 0)).setCell ⟨w.heap.size + 1, 1, none⟩ (.slice none 0 0)).heap[w.heap.size + 1]? = some (.cells #[.slice none 0 0, .slice none 0 0, .slice a9 r9.1.length k9] 28 (0, 0)) := heap_setCell_same ((((((((yk.setCell ⟨w.heap.size, 0, none⟩ (.int .i64 0)).setCell ⟨w.heap.size, 1, none⟩ (.int .i64 0)).setCell ⟨w.heap.size, 2, none⟩ (.int .i64 0)).setCell ⟨w.heap.size, 3, none⟩ (.int .i64 0)).setCell ⟨w.heap.size, 4, none⟩ (.int .i64 0)).setCell ⟨w.heap.size, 5, none⟩ (.int .i64 0)).setCell ⟨w.heap.size, 6, none⟩ (.int .i64 0)).setCell ⟨w.heap.size + 1, 0, none⟩ (.slice none 0 0)) (w.heap.size + 1) 1 _ _ _ hS
   have hC' : (((((((((yk.setCell ⟨w.heap.size, 0, none⟩ (.int .i64 0)).setCell ⟨w.heap.size, 1, none⟩ (.int .i64 0)).setCell ⟨w.heap.size, 2, none⟩ (.int .i64 0)).setCell ⟨w.heap.size, 3, none⟩ (.int .i64 0)).setCell ⟨w.heap.size, 4, none⟩ (.int .i64 0)).setCell ⟨w.heap.size, 5, none⟩ (.int .i64 0)).setCell ⟨w.heap.size, 6, none⟩ (.int .i64 0)).setCell ⟨w.heap.size + 1, 0, none⟩ (.slice none 0 0)).setCell ⟨w.heap.size + 1, 1, none⟩ (.slice none 0 0)).heap[w.heap.size]? = some (.cells #[.int .i64 0, .int .i64 0, .int .i64 0, .int .i64 0, .int .i64 0, .int .i64 0, .int .i64 0] 23 (0, 0)) := heap_set_far hC (by omega)
   have hG' := gb_set hG (b := w.heap.size + 1) (by omega) 1 (.slice none 0 0)
   have o1' := owns_set o1 (b := w.heap.size + 1) (by omega) 1 (.slice none 0 0)
   have o2' := owns_set o2 (b := w.heap.size + 1) (by omega) 1 (.slice none 0 0)
   have o3' := owns_set o3 (b := w.heap.size + 1) (by omega) 1 (.slice none 0 0)
   clear hC hS hG o1 o2 o3
   have hC := hC'
   have hS := hS'
   have hG := hG'
   have o1 := o1'
   have o2 := o2'
   have o3 := o3'
   clear hC' hS' hG' o1' o2' o3'
   have e18 := cell_heap (k := 2) (v := .slice a9 r9.1.length k9) hS rfl
   have e19 := blk_frozen (j := 2) hS
   have hS' : ((((((((((yk.setCell ⟨w.heap.size, 0, none⟩ (.int .i64 0)).setCell ⟨w.heap.size, 1, none⟩ (.int .i64 0)).setCell ⟨w.heap.size, 2, none⟩ (.int .i64 0)).setCell ⟨w.heap.size, 3, none⟩ (.int .i64 0)).setCell ⟨w.heap.size, 4, none⟩ (.int .i64 0)).setCell ⟨w.heap.size, 5, none⟩ (.int .i64 0)).setCell ⟨w.heap.size, 6, none⟩ (.int .i64 0)).setCell ⟨w.heap.size + 1, 0, none⟩ (.slice none 0 0)).setCell ⟨w.heap.size + 1, 1, none⟩ (.slice none 0 0)).setCell ⟨w.heap.size + 1, 2, none⟩ (.slice none 0 0)).heap[w.heap.size + 1]? = some (.cells #[.slice none 0 0, .slice none 0 0, .slice none 0 0] 28 (0, 0)) := heap_setCell_same (((((((((yk.setCell ⟨w.heap.size, 0, none⟩ (.int .i64 0)).setCell ⟨w.heap.size, 1, none⟩ (.int .i64 0)).setCell ⟨w.heap.size, 2, none⟩ (.int .i64 0)).setCell ⟨w.heap.size, 3, none⟩ (.int .i64 0)).setCell ⟨w.heap.size, 4, none⟩ (.int .i64 0)).setCell ⟨w.heap.size, 5, none⟩ (.int .i64 0)).setCell ⟨w.heap.size, 6, none⟩ (.int .i64 0)).setCell ⟨w.heap.size + 1, 0, none⟩ (.slice none 0 0)).setCell ⟨w.heap.size + 1, 1, none⟩ (.slice none 0 0)) (w.heap.size + 1) 2 _ _ _ hS
   have hC' : ((((((((((yk.setCell ⟨w.heap.size, 0, none⟩ (.int .i64 0)).setCell ⟨w.heap.size, 1, none⟩ (.int .i64 0)).setCell ⟨w.heap.size, 2, none⟩ (.int .i64 0)).setCell ⟨w.heap.size, 3, none⟩ (.int .i64 0)).setCell ⟨w.heap.size, 4, none⟩ (.int .i64 0)).setCell ⟨w.heap.size, 5, none⟩ (.int .i64 0)).setCell ⟨w.heap.size, 6, none⟩ (.int .i64 0)).setCell ⟨w.heap.size + 1, 0, none⟩ (.slice none 0 0)).setCell ⟨w.heap.size + 1, 1, none⟩ (.slice none 0 0)).setCell ⟨w.heap.size + 1, 2, none⟩ (.slice none 0 0)).heap[w.heap.size]? = some (.cells #[.int .i64 0, .int .i64 0, .int .i64 0, .int .i64 0, .int .i64 0, .int .i64 0, .int .i64 0] 23 (0, 0)) := heap_set_far hC (by omega)
   have hG' := gb_set hG (b := w.heap.size + 1) (by omega) 2 (.slice none 0 0)
   have o1' := owns_set o1 (b := w.heap.size + 1) (by omega) 2 (.slice none 0 0)
   have o2' := owns_set o2 (b := w.heap.size + 1) (by omega) 2 (.slice none 0 0)
   have o3' := owns_set o3 (b := w.heap.size + 1) (by omega) 2 (.slice none 0 0)
   clear hC hS hG o1 o2 o3
   have hC := hC'
   have hS := hS'
   have hG := hG'
   have o1 := o1'
   have o2 := o2'
   have o3 := o3'
   clear hC' hS' hG' o1' o2' o3'
   go_wp2
   refine bodyPost_ret (results_cct rfl _ _ w.heap.size 23 #[.int .i64 0, .int .i64 0, .int .i64 0, .int .i64 0, .int .i64 0, .int .i64 0, .int .i64 0] (0, 0) _ (w.heap.size + 1) 28 #[.slice none 0 0, .slice none 0 0, .slice none 0 0] (0, 0) _ rfl hC Tryz.underlying23 rfl (by kernel_rfl) rfl hS Tryz.underlying28 rfl (by kernel_rfl)) rfl ?_
   unfold rdPost
   rw [HW.out]
   exact ⟨⟨none, 0, 0⟩, ⟨none, 0, 0⟩, ⟨none, 0, 0⟩, rfl, ⟨SlR.nil _ _ _, SlR.nil _ _ _, SlR.nil _ _ _⟩, gn_below hG⟩
  have HW : Hid (V = (⟨r0.1, r1.1, r2.1, r3.1, r4.1, r5.1, r6.1⟩, ⟨r7.1, r8.1, r9.1⟩, (r9.2.1 : Int), 0)) := by show _ = _; rw [HV1.out, if_neg (by rw [hbd]; simp [hE0])]
  subst hE0
  have cR := cell_heap (k := 1) (v := .int .i64 r9.2.1) hR' rfl
  clear hR'
  obtain ⟨B7, B8, B9, g7, g8, g9, o1', o2', o3'⟩ : ∃ B7 B8 B9, w.heap.size + 1 + 1 < B7 ∧ w.heap.size + 1 + 1 < B8 ∧ w.heap.size + 1 + 1 < B9 ∧ yk.ownsRow B7 62 10 (.slice a7 r7.1.length k7) r7.1.length (r7.1.flatMap triC) ∧ yk.ownsRow B8 65 8 (.slice a8 r8.1.length k8) r8.1.length (r8.1.flatMap bxC) ∧ yk.ownsRow B9 69 10 (.slice a9 r9.1.length k9) r9.1.length (r9.1.flatMap hpC) := ⟨_, _, _, hlt7, hlt8, hlt9, o1, o2, o3⟩
  clear o1 o2 o3 hlt7 hlt8 hlt9
  have z0 := cell_heap (k := 0) (v := .int .i64 r0.1) hC rfl
  have x0 := blk_frozen (j := 0) hC
  have hC0 : (yk.setCell ⟨w.heap.size, 0, none⟩ (.int .i64 r0.1)).heap[w.heap.size]? = some (.cells #[.int .i64 r0.1, .int .i64 r1.1, .int .i64 r2.1, .int .i64 r3.1, .int .i64 r4.1, .int .i64 r5.1, .int .i64 r6.1] 23 (0, 0)) := heap_same1 hC rfl
  have hS0 : (yk.setCell ⟨w.heap.size, 0, none⟩ (.int .i64 r0.1)).heap[w.heap.size + 1]? = some (.cells #[.slice a7 r7.1.length k7, .slice a8 r8.1.length k8, .slice a9 r9.1.length k9] 28 (0, 0)) := heap_set_far hS (by omega)
  have cR0 : (yk.setCell ⟨w.heap.size, 0, none⟩ (.int .i64 r0.1)).cell? ⟨w.heap.size + 1 + 1, 1, none⟩ = some (.int .i64 r9.2.1) := cell_set_far cR (by omega)
  have o7_0 := owns_set o1' (b := w.heap.size) (by omega) 0 (.int .i64 r0.1)
  have o8_0 := owns_set o2' (b := w.heap.size) (by omega) 0 (.int .i64 r0.1)
  have o9_0 := owns_set o3' (b := w.heap.size) (by omega) 0 (.int .i64 r0.1)
  have hG0 := gb_set hG (b := w.heap.size) (by omega) 0 (.int .i64 r0.1)
  have z1 := cell_heap (k := 1) (v := .int .i64 r1.1) hC0 rfl
  have x1 := blk_frozen (j := 1) hC0
  have hC1 : ((yk.setCell ⟨w.heap.size, 0, none⟩ (.int .i64 r0.1)).setCell ⟨w.heap.size, 1, none⟩ (.int .i64 r1.1)).heap[w.heap.size]? = some (.cells #[.int .i64 r0.1, .int .i64 r1.1, .int .i64 r2.1, .int .i64 r3.1, .int .i64 r4.1, .int .i64 r5.1, .int .i64 r6.1] 23 (0, 0)) := heap_same1 hC0 rfl
  have hS1 : ((yk.setCell ⟨w.heap.size, 0, none⟩ (.int .i64 r0.1)).setCell ⟨w.heap.size, 1, none⟩ (.int .i64 r1.1)).heap[w.heap.size + 1]? = some (.cells #[.slice a7 r7.1.length k7, .slice a8 r8.1.length k8, .slice a9 r9.1.length k9] 28 (0, 0)) := heap_set_far hS0 (by omega)
  have cR1 : ((yk.setCell ⟨w.heap.size, 0, none⟩ (.int .i64 r0.1)).setCell ⟨w.heap.size, 1, none⟩ (.int .i64 r1.1)).cell? ⟨w.heap.size + 1 + 1, 1, none⟩ = some (.int .i64 r9.2.1) := cell_set_far cR0 (by omega)
  have o7_1 := owns_set o7_0 (b := w.heap.size) (by omega) 1 (.int .i64 r1.1)
  have o8_1 := owns_set o8_0 (b := w.heap.size) (by omega) 1 (.int .i64 r1.1)
  have o9_1 := owns_set o9_0 (b := w.heap.size) (by omega) 1 (.int .i64 r1.1)
  have hG1 := gb_set hG0 (b := w.heap.size) (by omega) 1 (.int .i64 r1.1)
  clear o7_0 o8_0 o9_0 hG0
  clear hC0 hS0 cR0
  have z2 := cell_heap (k := 2) (v := .int .i64 r2.1) hC1 rfl
  have x2 := blk_frozen (j := 2) hC1
  have hC2 : (((yk.setCell ⟨w.heap.size, 0, none⟩ (.int .i64 r0.1)).setCell ⟨w.heap.size, 1, none⟩ (.int .i64 r1.1)).setCell ⟨w.heap.size, 2, none⟩ (.int .i64 r2.1)).heap[w.heap.size]? = some (.cells #[.int .i64 r0.1, .int .i64 r1.1, .int .i64 r2.1, .int .i64 r3.1, .int .i64 r4.1, .int .i64 r5.1, .int .i64 r6.1] 23 (0, 0)) := heap_same1 hC1 rfl
  have hS2 : (((yk.setCell ⟨w.heap.size, 0, none⟩ (.int .i64 r0.1)).setCell ⟨w.heap.size, 1, none⟩ (.int .i64 r1.1)).setCell ⟨w.heap.size, 2, none⟩ (.int .i64 r2.1)).heap[w.heap.size + 1]? = some (.cells #[.slice a7 r7.1.length k7, .slice a8 r8.1.length k8, .slice a9 r9.1.length k9] 28 (0, 0)) := heap_set_far hS1 (by omega)
  have cR2 : (((yk.setCell ⟨w.heap.size, 0, none⟩ (.int .i64 r0.1)).setCell ⟨w.heap.size, 1, none⟩ (.int .i64 r1.1)).setCell ⟨w.heap.size, 2, none⟩ (.int .i64 r2.1)).cell? ⟨w.heap.size + 1 + 1, 1, none⟩ = some (.int .i64 r9.2.1) := cell_set_far cR1 (by omega)
  have o7_2 := owns_set o7_1 (b := w.heap.size) (by omega) 2 (.int .i64 r2.1)
  have o8_2 := owns_set o8_1 (b := w.heap.size) (by omega) 2 (.int .i64 r2.1)
  have o9_2 := owns_set o9_1 (b := w.heap.size) (by omega) 2 (.int .i64 r2.1)
  have hG2 := gb_set hG1 (b := w.heap.size) (by omega) 2 (.int .i64 r2.1)
  clear o7_1 o8_1 o9_1 hG1
  clear hC1 hS1 cR1
  have z3 := cell_heap (k := 3) (v := .int .i64 r3.1) hC2 rfl
  have x3 := blk_frozen (j := 3) hC2
  have hC3 : ((((yk.setCell ⟨w.heap.size, 0, none⟩ (.int .i64 r0.1)).setCell ⟨w.heap.size, 1, none⟩ (.int .i64 r1.1)).setCell ⟨w.heap.size, 2, none⟩ (.int .i64 r2.1)).setCell ⟨w.heap.size, 3, none⟩ (.int .i64 r3.1)).heap[w.heap.size]? = some (.cells #[.int .i64 r0.1, .int .i64 r1.1, .int .i64 r2.1, .int .i64 r3.1, .int .i64 r4.1, .int .i64 r5.1, .int .i64 r6.1] 23 (0, 0)) := heap_same1 hC2 rfl
  have hS3 : ((((yk.setCell ⟨w.heap.size, 0, none⟩ (.int .i64 r0.1)).setCell ⟨w.heap.size, 1, none⟩ (.int .i64 r1.1)).setCell ⟨w.heap.size, 2, none⟩ (.int .i64 r2.1)).setCell ⟨w.heap.size, 3, none⟩ (.int .i64 r3.1)).heap[w.heap.size + 1]? = some (.cells #[.slice a7 r7.1.length k7, .slice a8 r8.1.length k8, .slice a9 r9.1.length k9] 28 (0, 0)) := heap_set_far hS2 (by omega)
  have cR3 : ((((yk.setCell ⟨w.heap.size, 0, none⟩ (.int .i64 r0.1)).setCell ⟨w.heap.size, 1, none⟩ (.int .i64 r1.1)).setCell ⟨w.heap.size, 2, none⟩ (.int .i64 r2.1)).setCell ⟨w.heap.size, 3, none⟩ (.int .i64 r3.1)).cell? ⟨w.heap.size + 1 + 1, 1, none⟩ = some (.int .i64 r9.2.1) := cell_set_far cR2 (by omega)
  have o7_3 := owns_set o7_2 (b := w.heap.size) (by omega) 3 (.int .i64 r3.1)
  have o8_3 := owns_set o8_2 (b := w.heap.size) (by omega) 3 (.int .i64 r3.1)
  have o9_3 := owns_set o9_2 (b := w.heap.size) (by omega) 3 (.int .i64 r3.1)
  have hG3 := gb_set hG2 (b := w.heap.size) (by omega) 3 (.int .i64 r3.1)
  clear o7_2 o8_2 o9_2 hG2
  clear hC2 hS2 cR2
  have z4 := cell_heap (k := 4) (v := .int .i64 r4.1) hC3 rfl
  have x4 := blk_frozen (j := 4) hC3
  have hC4 : (((((yk.setCell ⟨w.heap.size, 0, none⟩ (.int .i64 r0.1)).setCell ⟨w.heap.size, 1, none⟩ (.int .i64 r1.1)).setCell ⟨w.heap.size, 2, none⟩ (.int .i64 r2.1)).setCell ⟨w.heap.size, 3, none⟩ (.int .i64 r3.1)).setCell ⟨w.heap.size, 4, none⟩ (.int .i64 r4.1)).heap[w.heap.size]? = some (.cells #[.int .i64 r0.1, .int .i64 r1.1, .int .i64 r2.1, .int .i64 r3.1, .int .i64 r4.1, .int .i64 r5.1, .int .i64 r6.1] 23 (0, 0)) := heap_same1 hC3 rfl
  have hS4 : (((((yk.setCell ⟨w.heap.size, 0, none⟩ (.int .i64 r0.1)).setCell ⟨w.heap.size, 1, none⟩ (.int .i64 r1.1)).setCell ⟨w.heap.size, 2, none⟩ (.int .i64 r2.1)).setCell ⟨w.heap.size, 3, none⟩ (.int .i64 r3.1)).setCell ⟨w.heap.size, 4, none⟩ (.int .i64 r4.1)).heap[w.heap.size + 1]? = some (.cells #[.slice a7 r7.1.length k7, .slice a8 r8.1.length k8, .slice a9 r9.1.length k9] 28 (0, 0)) := heap_set_far hS3 (by omega)
  have cR4 : (((((yk.setCell ⟨w.heap.size, 0, none⟩ (.int .i64 r0.1)).setCell ⟨w.heap.size, 1, none⟩ (.int .i64 r1.1)).setCell ⟨w.heap.size, 2, none⟩ (.int .i64 r2.1)).setCell ⟨w.heap.size, 3, none⟩ (.int .i64 r3.1)).setCell ⟨w.heap.size, 4, none⟩ (.int .i64 r4.1)).cell? ⟨w.heap.size + 1 + 1, 1, none⟩ = some (.int .i64 r9.2.1) := cell_set_far cR3 (by omega)
  have o7_4 := owns_set o7_3 (b := w.heap.size) (by omega) 4 (.int .i64 r4.1)
  have o8_4 := owns_set o8_3 (b := w.heap.size) (by omega) 4 (.int .i64 r4.1)
  have o9_4 := owns_set o9_3 (b := w.heap.size) (by omega) 4 (.int .i64 r4.1)
  have hG4 := gb_set hG3 (b := w.heap.size) (by omega) 4 (.int .i64 r4.1)
  clear o7_3 o8_3 o9_3 hG3
  clear hC3 hS3 cR3
  have z5 := cell_heap (k := 5) (v := .int .i64 r5.1) hC4 rfl
  have x5 := blk_frozen (j := 5) hC4
  have hC5 : ((((((yk.setCell ⟨w.heap.size, 0, none⟩ (.int .i64 r0.1)).setCell ⟨w.heap.size, 1, none⟩ (.int .i64 r1.1)).setCell ⟨w.heap.size, 2, none⟩ (.int .i64 r2.1)).setCell ⟨w.heap.size, 3, none⟩ (.int .i64 r3.1)).setCell ⟨w.heap.size, 4, none⟩ (.int .i64 r4.1)).setCell ⟨w.heap.size, 5, none⟩ (.int .i64 r5.1)).heap[w.heap.size]? = some (.cells #[.int .i64 r0.1, .int .i64 r1.1, .int .i64 r2.1, .int .i64 r3.1, .int .i64 r4.1, .int .i64 r5.1, .int .i64 r6.1] 23 (0, 0)) := heap_same1 hC4 rfl
  have hS5 : ((((((yk.setCell ⟨w.heap.size, 0, none⟩ (.int .i64 r0.1)).setCell ⟨w.heap.size, 1, none⟩ (.int .i64 r1.1)).setCell ⟨w.heap.size, 2, none⟩ (.int .i64 r2.1)).setCell ⟨w.heap.size, 3, none⟩ (.int .i64 r3.1)).setCell ⟨w.heap.size, 4, none⟩ (.int .i64 r4.1)).setCell ⟨w.heap.size, 5, none⟩ (.int .i64 r5.1)).heap[w.heap.size + 1]? = some (.cells #[.slice a7 r7.1.length k7, .slice a8 r8.1.length k8, .slice a9 r9.1.length k9] 28 (0, 0)) := heap_set_far hS4 (by omega)
  have cR5 : ((((((yk.setCell ⟨w.heap.size, 0, none⟩ (.int .i64 r0.1)).setCell ⟨w.heap.size, 1, none⟩ (.int .i64 r1.1)).setCell ⟨w.heap.size, 2, none⟩ (.int .i64 r2.1)).setCell ⟨w.heap.size, 3, none⟩ (.int .i64 r3.1)).setCell ⟨w.heap.size, 4, none⟩ (.int .i64 r4.1)).setCell ⟨w.heap.size, 5, none⟩ (.int .i64 r5.1)).cell? ⟨w.heap.size + 1 + 1, 1, none⟩ = some (.int .i64 r9.2.1) := cell_set_far cR4 (by omega)
  have o7_5 := owns_set o7_4 (b := w.heap.size) (by omega) 5 (.int .i64 r5.1)
  have o8_5 := owns_set o8_4 (b := w.heap.size) (by omega) 5 (.int .i64 r5.1)
  have o9_5 := owns_set o9_4 (b := w.heap.size) (by omega) 5 (.int .i64 r5.1)
  have hG5 := gb_set hG4 (b := w.heap.size) (by omega) 5 (.int .i64 r5.1)
  clear o7_4 o8_4 o9_4 hG4
  clear hC4 hS4 cR4
  have z6 := cell_heap (k := 6) (v := .int .i64 r6.1) hC5 rfl
  have x6 := blk_frozen (j := 6) hC5
  have hC6 : (((((((yk.setCell ⟨w.heap.size, 0, none⟩ (.int .i64 r0.1)).setCell ⟨w.heap.size, 1, none⟩ (.int .i64 r1.1)).setCell ⟨w.heap.size, 2, none⟩ (.int .i64 r2.1)).setCell ⟨w.heap.size, 3, none⟩ (.int .i64 r3.1)).setCell ⟨w.heap.size, 4, none⟩ (.int .i64 r4.1)).setCell ⟨w.heap.size, 5, none⟩ (.int .i64 r5.1)).setCell ⟨w.heap.size, 6, none⟩ (.int .i64 r6.1)).heap[w.heap.size]? = some (.cells #[.int .i64 r0.1, .int .i64 r1.1, .int .i64 r2.1, .int .i64 r3.1, .int .i64 r4.1, .int .i64 r5.1, .int .i64 r6.1] 23 (0, 0)) := heap_same1 hC5 rfl
  have hS6 : (((((((yk.setCell ⟨w.heap.size, 0, none⟩ (.int .i64 r0.1)).setCell ⟨w.heap.size, 1, none⟩ (.int .i64 r1.1)).setCell ⟨w.heap.size, 2, none⟩ (.int .i64 r2.1)).setCell ⟨w.heap.size, 3, none⟩ (.int .i64 r3.1)).setCell ⟨w.heap.size, 4, none⟩ (.int .i64 r4.1)).setCell ⟨w.heap.size, 5, none⟩ (.int .i64 r5.1)).setCell ⟨w.heap.size, 6, none⟩ (.int .i64 r6.1)).heap[w.heap.size + 1]? = some (.cells #[.slice a7 r7.1.length k7, .slice a8 r8.1.length k8, .slice a9 r9.1.length k9] 28 (0, 0)) := heap_set_far hS5 (by omega)
  have cR6 : (((((((yk.setCell ⟨w.heap.size, 0, none⟩ (.int .i64 r0.1)).setCell ⟨w.heap.size, 1, none⟩ (.int .i64 r1.1)).setCell ⟨w.heap.size, 2, none⟩ (.int .i64 r2.1)).setCell ⟨w.heap.size, 3, none⟩ (.int .i64 r3.1)).setCell ⟨w.heap.size, 4, none⟩ (.int .i64 r4.1)).setCell ⟨w.heap.size, 5, none⟩ (.int .i64 r5.1)).setCell ⟨w.heap.size, 6, none⟩ (.int .i64 r6.1)).cell? ⟨w.heap.size + 1 + 1, 1, none⟩ = some (.int .i64 r9.2.1) := cell_set_far cR5 (by omega)
  have o7_6 := owns_set o7_5 (b := w.heap.size) (by omega) 6 (.int .i64 r6.1)
  have o8_6 := owns_set o8_5 (b := w.heap.size) (by omega) 6 (.int .i64 r6.1)
  have o9_6 := owns_set o9_5 (b := w.heap.size) (by omega) 6 (.int .i64 r6.1)
  have hG6 := gb_set hG5 (b := w.heap.size) (by omega) 6 (.int .i64 r6.1)
  clear o7_5 o8_5 o9_5 hG5
  clear hC5 hS5 cR5
  have FA := Lib.hid (show _ from (⟨dr_cell (cell_heap (k := 0) (v := .int .i64 r0.1) hC6 rfl), dr_cell (cell_heap (k := 1) (v := .int .i64 r1.1) hC6 rfl), dr_cell (cell_heap (k := 2) (v := .int .i64 r2.1) hC6 rfl), dr_cell (cell_heap (k := 3) (v := .int .i64 r3.1) hC6 rfl), dr_cell (cell_heap (k := 4) (v := .int .i64 r4.1) hC6 rfl), dr_cell (cell_heap (k := 5) (v := .int .i64 r5.1) hC6 rfl), dr_cell (cell_heap (k := 6) (v := .int .i64 r6.1) hC6 rfl), dr_cell (cell_heap (k := 0) (v := .slice a7 r7.1.length k7) hS6 rfl), dr_cell (cell_heap (k := 1) (v := .slice a8 r8.1.length k8) hS6 rfl), dr_cell (cell_heap (k := 2) (v := .slice a9 r9.1.length k9) hS6 rfl), dr_cell cR6⟩ : (((((((yk.setCell ⟨w.heap.size, 0, none⟩ (.int .i64 r0.1)).setCell ⟨w.heap.size, 1, none⟩ (.int .i64 r1.1)).setCell ⟨w.heap.size, 2, none⟩ (.int .i64 r2.1)).setCell ⟨w.heap.size, 3, none⟩ (.int .i64 r3.1)).setCell ⟨w.heap.size, 4, none⟩ (.int .i64 r4.1)).setCell ⟨w.heap.size, 5, none⟩ (.int .i64 r5.1)).setCell ⟨w.heap.size, 6, none⟩ (.int .i64 r6.1)).drew.cell? ⟨w.heap.size, 0, none⟩ = some (.int .i64 r0.1) ∧ (((((((yk.setCell ⟨w.heap.size, 0, none⟩ (.int .i64 r0.1)).setCell ⟨w.heap.size, 1, none⟩ (.int .i64 r1.1)).setCell ⟨w.heap.size, 2, none⟩ (.int .i64 r2.1)).setCell ⟨w.heap.size, 3, none⟩ (.int .i64 r3.1)).setCell ⟨w.heap.size, 4, none⟩ (.int .i64 r4.1)).setCell ⟨w.heap.size, 5, none⟩ (.int .i64 r5.1)).setCell ⟨w.heap.size, 6, none⟩ (.int .i64 r6.1)).drew.cell? ⟨w.heap.size, 1, none⟩ = some (.int .i64 r1.1) ∧ (((((((yk.setCell ⟨w.heap.size, 0, none⟩ (.int .i64 r0.1)).setCell ⟨w.heap.size, 1, none⟩ (.int .i64 r1.1)).setCell ⟨w.heap.size, 2, none⟩ (.int .i64 r2.1)).setCell ⟨w.heap.size, 3, none⟩ (.int .i64 r3.1)).setCell ⟨w.heap.size, 4, none⟩ (.int .i64 r4.1)).setCell ⟨w.heap.size, 5, none⟩ (.int .i64 r5.1)).setCell ⟨w.heap.size, 6, none⟩ (.int .i64 r6.1)).drew.cell? ⟨w.heap.size, 2, none⟩ = some (.int .i64 r2.1) ∧ (((((((yk.setCell ⟨w.heap.size, 0, none⟩ (.int .i64 r0.1)).setCell ⟨w.heap.size, 1, none⟩ (.int .i64 r1.1)).setCell ⟨w.heap.size, 2, none⟩ (.int .i64 r2.1)).setCell ⟨w.heap.size, 3, none⟩ (.int .i64 r3.1)).setCell ⟨w.heap.size, 4, none⟩ (.int .i64 r4.1)).setCell ⟨w.heap.size, 5, none⟩ (.int .i64 r5.1)).setCell ⟨w.heap.size, 6, none⟩ (.int .i64 r6.1)).drew.cell? ⟨w.heap.size, 3, none⟩ = some (.int .i64 r3.1) ∧ (((((((yk.setCell ⟨w.heap.size, 0, none⟩ (.int .i64 r0.1)).setCell ⟨w.heap.size, 1, none⟩ (.int .i64 r1.1)).setCell ⟨w.heap.size, 2, none⟩ (.int .i64 r2.1)).setCell ⟨w.heap.size, 3, none⟩ (.int .i64 r3.1)).setCell ⟨w.heap.size, 4, none⟩ (.int .i64 r4.1)).setCell ⟨w.heap.size, 5, none⟩ (.int .i64 r5.1)).setCell ⟨w.heap.size, 6, none⟩ (.int .i64 r6.1)).drew.cell? ⟨w.heap.size, 4, none⟩ = some (.int .i64 r4.1) ∧ (((((((yk.setCell ⟨w.heap.size, 0, none⟩ (.int .i64 r0.1)).setCell ⟨w.heap.size, 1, none⟩ (.int .i64 r1.1)).setCell ⟨w.heap.size, 2, none⟩ (.int .i64 r2.1)).setCell ⟨w.heap.size, 3, none⟩ (.int .i64 r3.1)).setCell ⟨w.heap.size, 4, none⟩ (.int .i64 r4.1)).setCell ⟨w.heap.size, 5, none⟩ (.int .i64 r5.1)).setCell ⟨w.heap.size, 6, none⟩ (.int .i64 r6.1)).drew.cell? ⟨w.heap.size, 5, none⟩ = some (.int .i64 r5.1) ∧ (((((((yk.setCell ⟨w.heap.size, 0, none⟩ (.int .i64 r0.1)).setCell ⟨w.heap.size, 1, none⟩ (.int .i64 r1.1)).setCell ⟨w.heap.size, 2, none⟩ (.int .i64 r2.1)).setCell ⟨w.heap.size, 3, none⟩ (.int .i64 r3.1)).setCell ⟨w.heap.size, 4, none⟩ (.int .i64 r4.1)).setCell ⟨w.heap.size, 5, none⟩ (.int .i64 r5.1)).setCell ⟨w.heap.size, 6, none⟩ (.int .i64 r6.1)).drew.cell? ⟨w.heap.size, 6, none⟩ = some (.int .i64 r6.1) ∧ (((((((yk.setCell ⟨w.heap.size, 0, none⟩ (.int .i64 r0.1)).setCell ⟨w.heap.size, 1, none⟩ (.int .i64 r1.1)).setCell ⟨w.heap.size, 2, none⟩ (.int .i64 r2.1)).setCell ⟨w.heap.size, 3, none⟩ (.int .i64 r3.1)).setCell ⟨w.heap.size, 4, none⟩ (.int .i64 r4.1)).setCell ⟨w.heap.size, 5, none⟩ (.int .i64 r5.1)).setCell ⟨w.heap.size, 6, none⟩ (.int .i64 r6.1)).drew.cell? ⟨w.heap.size + 1, 0, none⟩ = some (.slice a7 r7.1.length k7) ∧ (((((((yk.setCell ⟨w.heap.size, 0, none⟩ (.int .i64 r0.1)).setCell ⟨w.heap.size, 1, none⟩ (.int .i64 r1.1)).setCell ⟨w.heap.size, 2, none⟩ (.int .i64 r2.1)).setCell ⟨w.heap.size, 3, none⟩ (.int .i64 r3.1)).setCell ⟨w.heap.size, 4, none⟩ (.int .i64 r4.1)).setCell ⟨w.heap.size, 5, none⟩ (.int .i64 r5.1)).setCell ⟨w.heap.size, 6, none⟩ (.int .i64 r6.1)).drew.cell? ⟨w.heap.size + 1, 1, none⟩ = some (.slice a8 r8.1.length k8) ∧ (((((((yk.setCell ⟨w.heap.size, 0, none⟩ (.int .i64 r0.1)).setCell ⟨w.heap.size, 1, none⟩ (.int .i64 r1.1)).setCell ⟨w.heap.size, 2, none⟩ (.int .i64 r2.1)).setCell ⟨w.heap.size, 3, none⟩ (.int .i64 r3.1)).setCell ⟨w.heap.size, 4, none⟩ (.int .i64 r4.1)).setCell ⟨w.heap.size, 5, none⟩ (.int .i64 r5.1)).setCell ⟨w.heap.size, 6, none⟩ (.int .i64 r6.1)).drew.cell? ⟨w.heap.size + 1, 2, none⟩ = some (.slice a9 r9.1.length k9) ∧ (((((((yk.setCell ⟨w.heap.size, 0, none⟩ (.int .i64 r0.1)).setCell ⟨w.heap.size, 1, none⟩ (.int .i64 r1.1)).setCell ⟨w.heap.size, 2, none⟩ (.int .i64 r2.1)).setCell ⟨w.heap.size, 3, none⟩ (.int .i64 r3.1)).setCell ⟨w.heap.size, 4, none⟩ (.int .i64 r4.1)).setCell ⟨w.heap.size, 5, none⟩ (.int .i64 r5.1)).setCell ⟨w.heap.size, 6, none⟩ (.int .i64 r6.1)).drew.cell? ⟨w.heap.size + 1 + 1, 1, none⟩ = some (.int .i64 r9.2.1)))
  have z7 := cell_heap (k := 0) (v := .slice a7 r7.1.length k7) hS6 rfl
  have x7 := blk_frozen (j := 0) hS6
  have hC7 : ((((((((yk.setCell ⟨w.heap.size, 0, none⟩ (.int .i64 r0.1)).setCell ⟨w.heap.size, 1, none⟩ (.int .i64 r1.1)).setCell ⟨w.heap.size, 2, none⟩ (.int .i64 r2.1)).setCell ⟨w.heap.size, 3, none⟩ (.int .i64 r3.1)).setCell ⟨w.heap.size, 4, none⟩ (.int .i64 r4.1)).setCell ⟨w.heap.size, 5, none⟩ (.int .i64 r5.1)).setCell ⟨w.heap.size, 6, none⟩ (.int .i64 r6.1)).setCell ⟨w.heap.size + 1, 0, none⟩ (.slice a7 r7.1.length k7)).heap[w.heap.size]? = some (.cells #[.int .i64 r0.1, .int .i64 r1.1, .int .i64 r2.1, .int .i64 r3.1, .int .i64 r4.1, .int .i64 r5.1, .int .i64 r6.1] 23 (0, 0)) := heap_set_far hC6 (by omega)
  have hS7 : ((((((((yk.setCell ⟨w.heap.size, 0, none⟩ (.int .i64 r0.1)).setCell ⟨w.heap.size, 1, none⟩ (.int .i64 r1.1)).setCell ⟨w.heap.size, 2, none⟩ (.int .i64 r2.1)).setCell ⟨w.heap.size, 3, none⟩ (.int .i64 r3.1)).setCell ⟨w.heap.size, 4, none⟩ (.int .i64 r4.1)).setCell ⟨w.heap.size, 5, none⟩ (.int .i64 r5.1)).setCell ⟨w.heap.size, 6, none⟩ (.int .i64 r6.1)).setCell ⟨w.heap.size + 1, 0, none⟩ (.slice a7 r7.1.length k7)).heap[w.heap.size + 1]? = some (.cells #[.slice a7 r7.1.length k7, .slice a8 r8.1.length k8, .slice a9 r9.1.length k9] 28 (0, 0)) := heap_same1 hS6 rfl
  have cR7 : ((((((((yk.setCell ⟨w.heap.size, 0, none⟩ (.int .i64 r0.1)).setCell ⟨w.heap.size, 1, none⟩ (.int .i64 r1.1)).setCell ⟨w.heap.size, 2, none⟩ (.int .i64 r2.1)).setCell ⟨w.heap.size, 3, none⟩ (.int .i64 r3.1)).setCell ⟨w.heap.size, 4, none⟩ (.int .i64 r4.1)).setCell ⟨w.heap.size, 5, none⟩ (.int .i64 r5.1)).setCell ⟨w.heap.size, 6, none⟩ (.int .i64 r6.1)).setCell ⟨w.heap.size + 1, 0, none⟩ (.slice a7 r7.1.length k7)).cell? ⟨w.heap.size + 1 + 1, 1, none⟩ = some (.int .i64 r9.2.1) := cell_set_far cR6 (by omega)
  have o7_7 := owns_set o7_6 (b := w.heap.size + 1) (by omega) 0 (.slice a7 r7.1.length k7)
  have o8_7 := owns_set o8_6 (b := w.heap.size + 1) (by omega) 0 (.slice a7 r7.1.length k7)
  have o9_7 := owns_set o9_6 (b := w.heap.size + 1) (by omega) 0 (.slice a7 r7.1.length k7)
  have hG7 := gb_set hG6 (b := w.heap.size + 1) (by omega) 0 (.slice a7 r7.1.length k7)
  clear o7_6 o8_6 o9_6 hG6
  have z8 := cell_heap (k := 1) (v := .slice a8 r8.1.length k8) hS7 rfl
  have x8 := blk_frozen (j := 1) hS7
  have hC8 : (((((((((yk.setCell ⟨w.heap.size, 0, none⟩ (.int .i64 r0.1)).setCell ⟨w.heap.size, 1, none⟩ (.int .i64 r1.1)).setCell ⟨w.heap.size, 2, none⟩ (.int .i64 r2.1)).setCell ⟨w.heap.size, 3, none⟩ (.int .i64 r3.1)).setCell ⟨w.heap.size, 4, none⟩ (.int .i64 r4.1)).setCell ⟨w.heap.size, 5, none⟩ (.int .i64 r5.1)).setCell ⟨w.heap.size, 6, none⟩ (.int .i64 r6.1)).setCell ⟨w.heap.size + 1, 0, none⟩ (.slice a7 r7.1.length k7)).setCell ⟨w.heap.size + 1, 1, none⟩ (.slice a8 r8.1.length k8)).heap[w.heap.size]? = some (.cells #[.int .i64 r0.1, .int .i64 r1.1, .int .i64 r2.1, .int .i64 r3.1, .int .i64 r4.1, .int .i64 r5.1, .int .i64 r6.1] 23 (0, 0)) := heap_set_far hC7 (by omega)
  have hS8 : (((((((((yk.setCell ⟨w.heap.size, 0, none⟩ (.int .i64 r0.1)).setCell ⟨w.heap.size, 1, none⟩ (.int .i64 r1.1)).setCell ⟨w.heap.size, 2, none⟩ (.int .i64 r2.1)).setCell ⟨w.heap.size, 3, none⟩ (.int .i64 r3.1)).setCell ⟨w.heap.size, 4, none⟩ (.int .i64 r4.1)).setCell ⟨w.heap.size, 5, none⟩ (.int .i64 r5.1)).setCell ⟨w.heap.size, 6, none⟩ (.int .i64 r6.1)).setCell ⟨w.heap.size + 1, 0, none⟩ (.slice a7 r7.1.length k7)).setCell ⟨w.heap.size + 1, 1, none⟩ (.slice a8 r8.1.length k8)).heap[w.heap.size + 1]? = some (.cells #[.slice a7 r7.1.length k7, .slice a8 r8.1.length k8, .slice a9 r9.1.length k9] 28 (0, 0)) := heap_same1 hS7 rfl
  have cR8 : (((((((((yk.setCell ⟨w.heap.size, 0, none⟩ (.int .i64 r0.1)).setCell ⟨w.heap.size, 1, none⟩ (.int .i64 r1.1)).setCell ⟨w.heap.size, 2, none⟩ (.int .i64 r2.1)).setCell ⟨w.heap.size, 3, none⟩ (.int .i64 r3.1)).setCell ⟨w.heap.size, 4, none⟩ (.int .i64 r4.1)).setCell ⟨w.heap.size, 5, none⟩ (.int .i64 r5.1)).setCell ⟨w.heap.size, 6, none⟩ (.int .i64 r6.1)).setCell ⟨w.heap.size + 1, 0, none⟩ (.slice a7 r7.1.length k7)).setCell ⟨w.heap.size + 1, 1, none⟩ (.slice a8 r8.1.length k8)).cell? ⟨w.heap.size + 1 + 1, 1, none⟩ = some (.int .i64 r9.2.1) := cell_set_far cR7 (by omega)
  have o7_8 := owns_set o7_7 (b := w.heap.size + 1) (by omega) 1 (.slice a8 r8.1.length k8)
  have o8_8 := owns_set o8_7 (b := w.heap.size + 1) (by omega) 1 (.slice a8 r8.1.length k8)
  have o9_8 := owns_set o9_7 (b := w.heap.size + 1) (by omega) 1 (.slice a8 r8.1.length k8)
  have hG8 := gb_set hG7 (b := w.heap.size + 1) (by omega) 1 (.slice a8 r8.1.length k8)
  clear o7_7 o8_7 o9_7 hG7
  clear hC7 hS7 cR7
  have z9 := cell_heap (k := 2) (v := .slice a9 r9.1.length k9) hS8 rfl
  have x9 := blk_frozen (j := 2) hS8
  have hC9 : ((((((((((yk.setCell ⟨w.heap.size, 0, none⟩ (.int .i64 r0.1)).setCell ⟨w.heap.size, 1, none⟩ (.int .i64 r1.1)).setCell ⟨w.heap.size, 2, none⟩ (.int .i64 r2.1)).setCell ⟨w.heap.size, 3, none⟩ (.int .i64 r3.1)).setCell ⟨w.heap.size, 4, none⟩ (.int .i64 r4.1)).setCell ⟨w.heap.size, 5, none⟩ (.int .i64 r5.1)).setCell ⟨w.heap.size, 6, none⟩ (.int .i64 r6.1)).setCell ⟨w.heap.size + 1, 0, none⟩ (.slice a7 r7.1.length k7)).setCell ⟨w.heap.size + 1, 1, none⟩ (.slice a8 r8.1.length k8)).setCell ⟨w.heap.size + 1, 2, none⟩ (.slice a9 r9.1.length k9)).heap[w.heap.size]? = some (.cells #[.int .i64 r0.1, .int .i64 r1.1, .int .i64 r2.1, .int .i64 r3.1, .int .i64 r4.1, .int .i64 r5.1, .int .i64 r6.1] 23 (0, 0)) := heap_set_far hC8 (by omega)
  have hS9 : ((((((((((yk.setCell ⟨w.heap.size, 0, none⟩ (.int .i64 r0.1)).setCell ⟨w.heap.size, 1, none⟩ (.int .i64 r1.1)).setCell ⟨w.heap.size, 2, none⟩ (.int .i64 r2.1)).setCell ⟨w.heap.size, 3, none⟩ (.int .i64 r3.1)).setCell ⟨w.heap.size, 4, none⟩ (.int .i64 r4.1)).setCell ⟨w.heap.size, 5, none⟩ (.int .i64 r5.1)).setCell ⟨w.heap.size, 6, none⟩ (.int .i64 r6.1)).setCell ⟨w.heap.size + 1, 0, none⟩ (.slice a7 r7.1.length k7)).setCell ⟨w.heap.size + 1, 1, none⟩ (.slice a8 r8.1.length k8)).setCell ⟨w.heap.size + 1, 2, none⟩ (.slice a9 r9.1.length k9)).heap[w.heap.size + 1]? = some (.cells #[.slice a7 r7.1.length k7, .slice a8 r8.1.length k8, .slice a9 r9.1.length k9] 28 (0, 0)) := heap_same1 hS8 rfl
  have cR9 : ((((((((((yk.setCell ⟨w.heap.size, 0, none⟩ (.int .i64 r0.1)).setCell ⟨w.heap.size, 1, none⟩ (.int .i64 r1.1)).setCell ⟨w.heap.size, 2, none⟩ (.int .i64 r2.1)).setCell ⟨w.heap.size, 3, none⟩ (.int .i64 r3.1)).setCell ⟨w.heap.size, 4, none⟩ (.int .i64 r4.1)).setCell ⟨w.heap.size, 5, none⟩ (.int .i64 r5.1)).setCell ⟨w.heap.size, 6, none⟩ (.int .i64 r6.1)).setCell ⟨w.heap.size + 1, 0, none⟩ (.slice a7 r7.1.length k7)).setCell ⟨w.heap.size + 1, 1, none⟩ (.slice a8 r8.1.length k8)).setCell ⟨w.heap.size + 1, 2, none⟩ (.slice a9 r9.1.length k9)).cell? ⟨w.heap.size + 1 + 1, 1, none⟩ = some (.int .i64 r9.2.1) := cell_set_far cR8 (by omega)
  have o7_9 := owns_set o7_8 (b := w.heap.size + 1) (by omega) 2 (.slice a9 r9.1.length k9)
  have o8_9 := owns_set o8_8 (b := w.heap.size + 1) (by omega) 2 (.slice a9 r9.1.length k9)
  have o9_9 := owns_set o9_8 (b := w.heap.size + 1) (by omega) 2 (.slice a9 r9.1.length k9)
  have hG9 := gb_set hG8 (b := w.heap.size + 1) (by omega) 2 (.slice a9 r9.1.length k9)
  clear o7_8 o8_8 o9_8 hG8
  clear hC8 hS8 cR8
  have FB := Lib.hid (show _ from (⟨dr_cell (cell_heap (k := 0) (v := .int .i64 r0.1) hC9 rfl), dr_cell (cell_heap (k := 1) (v := .int .i64 r1.1) hC9 rfl), dr_cell (cell_heap (k := 2) (v := .int .i64 r2.1) hC9 rfl), dr_cell (cell_heap (k := 3) (v := .int .i64 r3.1) hC9 rfl), dr_cell (cell_heap (k := 4) (v := .int .i64 r4.1) hC9 rfl), dr_cell (cell_heap (k := 5) (v := .int .i64 r5.1) hC9 rfl), dr_cell (cell_heap (k := 6) (v := .int .i64 r6.1) hC9 rfl), dr_cell (cell_heap (k := 0) (v := .slice a7 r7.1.length k7) hS9 rfl), dr_cell (cell_heap (k := 1) (v := .slice a8 r8.1.length k8) hS9 rfl), dr_cell (cell_heap (k := 2) (v := .slice a9 r9.1.length k9) hS9 rfl), dr_cell cR9⟩ : ((((((((((yk.setCell ⟨w.heap.size, 0, none⟩ (.int .i64 r0.1)).setCell ⟨w.heap.size, 1, none⟩ (.int .i64 r1.1)).setCell ⟨w.heap.size, 2, none⟩ (.int .i64 r2.1)).setCell ⟨w.heap.size, 3, none⟩ (.int .i64 r3.1)).setCell ⟨w.heap.size, 4, none⟩ (.int .i64 r4.1)).setCell ⟨w.heap.size, 5, none⟩ (.int .i64 r5.1)).setCell ⟨w.heap.size, 6, none⟩ (.int .i64 r6.1)).setCell ⟨w.heap.size + 1, 0, none⟩ (.slice a7 r7.1.length k7)).setCell ⟨w.heap.size + 1, 1, none⟩ (.slice a8 r8.1.length k8)).setCell ⟨w.heap.size + 1, 2, none⟩ (.slice a9 r9.1.length k9)).drew.cell? ⟨w.heap.size, 0, none⟩ = some (.int .i64 r0.1) ∧ ((((((((((yk.setCell ⟨w.heap.size, 0, none⟩ (.int .i64 r0.1)).setCell ⟨w.heap.size, 1, none⟩ (.int .i64 r1.1)).setCell ⟨w.heap.size, 2, none⟩ (.int .i64 r2.1)).setCell ⟨w.heap.size, 3, none⟩ (.int .i64 r3.1)).setCell ⟨w.heap.size, 4, none⟩ (.int .i64 r4.1)).setCell ⟨w.heap.size, 5, none⟩ (.int .i64 r5.1)).setCell ⟨w.heap.size, 6, none⟩ (.int .i64 r6.1)).setCell ⟨w.heap.size + 1, 0, none⟩ (.slice a7 r7.1.length k7)).setCell ⟨w.heap.size + 1, 1, none⟩ (.slice a8 r8.1.length k8)).setCell ⟨w.heap.size + 1, 2, none⟩ (.slice a9 r9.1.length k9)).drew.cell? ⟨w.heap.size, 1, none⟩ = some (.int .i64 r1.1) ∧ ((((((((((yk.setCell ⟨w.heap.size, 0, none⟩ (.int .i64 r0.1)).setCell ⟨w.heap.size, 1, none⟩ (.int .i64 r1.1)).setCell ⟨w.heap.size, 2, none⟩ (.int .i64 r2.1)).setCell ⟨w.heap.size, 3, none⟩ (.int .i64 r3.1)).setCell ⟨w.heap.size, 4, none⟩ (.int .i64 r4.1)).setCell ⟨w.heap.size, 5, none⟩ (.int .i64 r5.1)).setCell ⟨w.heap.size, 6, none⟩ (.int .i64 r6.1)).setCell ⟨w.heap.size + 1, 0, none⟩ (.slice a7 r7.1.length k7)).setCell ⟨w.heap.size + 1, 1, none⟩ (.slice a8 r8.1.length k8)).setCell ⟨w.heap.size + 1, 2, none⟩ (.slice a9 r9.1.length k9)).drew.cell? ⟨w.heap.size, 2, none⟩ = some (.int .i64 r2.1) ∧ ((((((((((yk.setCell ⟨w.heap.size, 0, none⟩ (.int .i64 r0.1)).setCell ⟨w.heap.size, 1, none⟩ (.int .i64 r1.1)).setCell ⟨w.heap.size, 2, none⟩ (.int .i64 r2.1)).setCell ⟨w.heap.size, 3, none⟩ (.int .i64 r3.1)).setCell ⟨w.heap.size, 4, none⟩ (.int .i64 r4.1)).setCell ⟨w.heap.size, 5, none⟩ (.int .i64 r5.1)).setCell ⟨w.heap.size, 6, none⟩ (.int .i64 r6.1)).setCell ⟨w.heap.size + 1, 0, none⟩ (.slice a7 r7.1.length k7)).setCell ⟨w.heap.size + 1, 1, none⟩ (.slice a8 r8.1.length k8)).setCell ⟨w.heap.size + 1, 2, none⟩ (.slice a9 r9.1.length k9)).drew.cell? ⟨w.heap.size, 3, none⟩ = some (.int .i64 r3.1) ∧ ((((((((((yk.setCell ⟨w.heap.size, 0, none⟩ (.int .i64 r0.1)).setCell ⟨w.heap.size, 1, none⟩ (.int .i64 r1.1)).setCell ⟨w.heap.size, 2, none⟩ (.int .i64 r2.1)).setCell ⟨w.heap.size, 3, none⟩ (.int .i64 r3.1)).setCell ⟨w.heap.size, 4, none⟩ (.int .i64 r4.1)).setCell ⟨w.heap.size, 5, none⟩ (.int .i64 r5.1)).setCell ⟨w.heap.size, 6, none⟩ (.int .i64 r6.1)).setCell ⟨w.heap.size + 1, 0, none⟩ (.slice a7 r7.1.length k7)).setCell ⟨w.heap.size + 1, 1, none⟩ (.slice a8 r8.1.length k8)).setCell ⟨w.heap.size + 1, 2, none⟩ (.slice a9 r9.1.length k9)).drew.cell? ⟨w.heap.size, 4, none⟩ = some (.int .i64 r4.1) ∧ ((((((((((yk.setCell ⟨w.heap.size, 0, none⟩ (.int .i64 r0.1)).setCell ⟨w.heap.size, 1, none⟩ (.int .i64 r1.1)).setCell ⟨w.heap.size, 2, none⟩ (.int .i64 r2.1)).setCell ⟨w.heap.size, 3, none⟩ (.int .i64 r3.1)).setCell ⟨w.heap.size, 4, none⟩ (.int .i64 r4.1)).setCell ⟨w.heap.size, 5, none⟩ (.int .i64 r5.1)).setCell ⟨w.heap.size, 6, none⟩ (.int .i64 r6.1)).setCell ⟨w.heap.size + 1, 0, none⟩ (.slice a7 r7.1.length k7)).setCell ⟨w.heap.size + 1, 1, none⟩ (.slice a8 r8.1.length k8)).setCell ⟨w.heap.size + 1, 2, none⟩ (.slice a9 r9.1.length k9)).drew.cell? ⟨w.heap.size, 5, none⟩ = some (.int .i64 r5.1) ∧ ((((((((((yk.setCell ⟨w.heap.size, 0, none⟩ (.int .i64 r0.1)).setCell ⟨w.heap.size, 1, none⟩ (.int .i64 r1.1)).setCell ⟨w.heap.size, 2, none⟩ (.int .i64 r2.1)).setCell ⟨w.heap.size, 3, none⟩ (.int .i64 r3.1)).setCell ⟨w.heap.size, 4, none⟩ (.int .i64 r4.1)).setCell ⟨w.heap.size, 5, none⟩ (.int .i64 r5.1)).setCell ⟨w.heap.size, 6, none⟩ (.int .i64 r6.1)).setCell ⟨w.heap.size + 1, 0, none⟩ (.slice a7 r7.1.length k7)).setCell ⟨w.heap.size + 1, 1, none⟩ (.slice a8 r8.1.length k8)).setCell ⟨w.heap.size + 1, 2, none⟩ (.slice a9 r9.1.length k9)).drew.cell? ⟨w.heap.size, 6, none⟩ = some (.int .i64 r6.1) ∧ ((((((((((yk.setCell ⟨w.heap.size, 0, none⟩ (.int .i64 r0.1)).setCell ⟨w.heap.size, 1, none⟩ (.int .i64 r1.1)).setCell ⟨w.heap.size, 2, none⟩ (.int .i64 r2.1)).setCell ⟨w.heap.size, 3, none⟩ (.int .i64 r3.1)).setCell ⟨w.heap.size, 4, none⟩ (.int .i64 r4.1)).setCell ⟨w.heap.size, 5, none⟩ (.int .i64 r5.1)).setCell ⟨w.heap.size, 6, none⟩ (.int .i64 r6.1)).setCell ⟨w.heap.size + 1, 0, none⟩ (.slice a7 r7.1.length k7)).setCell ⟨w.heap.size + 1, 1, none⟩ (.slice a8 r8.1.length k8)).setCell ⟨w.heap.size + 1, 2, none⟩ (.slice a9 r9.1.length k9)).drew.cell? ⟨w.heap.size + 1, 0, none⟩ = some (.slice a7 r7.1.length k7) ∧ ((((((((((yk.setCell ⟨w.heap.size, 0, none⟩ (.int .i64 r0.1)).setCell ⟨w.heap.size, 1, none⟩ (.int .i64 r1.1)).setCell ⟨w.heap.size, 2, none⟩ (.int .i64 r2.1)).setCell ⟨w.heap.size, 3, none⟩ (.int .i64 r3.1)).setCell ⟨w.heap.size, 4, none⟩ (.int .i64 r4.1)).setCell ⟨w.heap.size, 5, none⟩ (.int .i64 r5.1)).setCell ⟨w.heap.size, 6, none⟩ (.int .i64 r6.1)).setCell ⟨w.heap.size + 1, 0, none⟩ (.slice a7 r7.1.length k7)).setCell ⟨w.heap.size + 1, 1, none⟩ (.slice a8 r8.1.length k8)).setCell ⟨w.heap.size + 1, 2, none⟩ (.slice a9 r9.1.length k9)).drew.cell? ⟨w.heap.size + 1, 1, none⟩ = some (.slice a8 r8.1.length k8) ∧ ((((((((((yk.setCell ⟨w.heap.size, 0, none⟩ (.int .i64 r0.1)).setCell ⟨w.heap.size, 1, none⟩ (.int .i64 r1.1)).setCell ⟨w.heap.size, 2, none⟩ (.int .i64 r2.1)).setCell ⟨w.heap.size, 3, none⟩ (.int .i64 r3.1)).setCell ⟨w.heap.size, 4, none⟩ (.int .i64 r4.1)).setCell ⟨w.heap.size, 5, none⟩ (.int .i64 r5.1)).setCell ⟨w.heap.size, 6, none⟩ (.int .i64 r6.1)).setCell ⟨w.heap.size + 1, 0, none⟩ (.slice a7 r7.1.length k7)).setCell ⟨w.heap.size + 1, 1, none⟩ (.slice a8 r8.1.length k8)).setCell ⟨w.heap.size + 1, 2, none⟩ (.slice a9 r9.1.length k9)).drew.cell? ⟨w.heap.size + 1, 2, none⟩ = some (.slice a9 r9.1.length k9) ∧ ((((((((((yk.setCell ⟨w.heap.size, 0, none⟩ (.int .i64 r0.1)).setCell ⟨w.heap.size, 1, none⟩ (.int .i64 r1.1)).setCell ⟨w.heap.size, 2, none⟩ (.int .i64 r2.1)).setCell ⟨w.heap.size, 3, none⟩ (.int .i64 r3.1)).setCell ⟨w.heap.size, 4, none⟩ (.int .i64 r4.1)).setCell ⟨w.heap.size, 5, none⟩ (.int .i64 r5.1)).setCell ⟨w.heap.size, 6, none⟩ (.int .i64 r6.1)).setCell ⟨w.heap.size + 1, 0, none⟩ (.slice a7 r7.1.length k7)).setCell ⟨w.heap.size + 1, 1, none⟩ (.slice a8 r8.1.length k8)).setCell ⟨w.heap.size + 1, 2, none⟩ (.slice a9 r9.1.length k9)).drew.cell? ⟨w.heap.size + 1 + 1, 1, none⟩ = some (.int .i64 r9.2.1)))
  have F0 := Lib.hid (show _ from (⟨dr_cell (cell_heap (k := 0) (v := .int .i64 r0.1) hC rfl), dr_cell (cell_heap (k := 1) (v := .int .i64 r1.1) hC rfl), dr_cell (cell_heap (k := 2) (v := .int .i64 r2.1) hC rfl), dr_cell (cell_heap (k := 3) (v := .int .i64 r3.1) hC rfl), dr_cell (cell_heap (k := 4) (v := .int .i64 r4.1) hC rfl), dr_cell (cell_heap (k := 5) (v := .int .i64 r5.1) hC rfl), dr_cell (cell_heap (k := 6) (v := .int .i64 r6.1) hC rfl), dr_cell (cell_heap (k := 0) (v := .slice a7 r7.1.length k7) hS rfl), dr_cell (cell_heap (k := 1) (v := .slice a8 r8.1.length k8) hS rfl), dr_cell (cell_heap (k := 2) (v := .slice a9 r9.1.length k9) hS rfl), dr_cell cR⟩ : yk.drew.cell? ⟨w.heap.size, 0, none⟩ = some (.int .i64 r0.1) ∧ yk.drew.cell? ⟨w.heap.size, 1, none⟩ = some (.int .i64 r1.1) ∧ yk.drew.cell? ⟨w.heap.size, 2, none⟩ = some (.int .i64 r2.1) ∧ yk.drew.cell? ⟨w.heap.size, 3, none⟩ = some (.int .i64 r3.1) ∧ yk.drew.cell? ⟨w.heap.size, 4, none⟩ = some (.int .i64 r4.1) ∧ yk.drew.cell? ⟨w.heap.size, 5, none⟩ = some (.int .i64 r5.1) ∧ yk.drew.cell? ⟨w.heap.size, 6, none⟩ = some (.int .i64 r6.1) ∧ yk.drew.cell? ⟨w.heap.size + 1, 0, none⟩ = some (.slice a7 r7.1.length k7) ∧ yk.drew.cell? ⟨w.heap.size + 1, 1, none⟩ = some (.slice a8 r8.1.length k8) ∧ yk.drew.cell? ⟨w.heap.size + 1, 2, none⟩ = some (.slice a9 r9.1.length k9) ∧ yk.drew.cell? ⟨w.heap.size + 1 + 1, 1, none⟩ = some (.int .i64 r9.2.1)))
  clear hC6 hS6 cR6 cR9 hC hS hG o1' o2' o3'
  go_wp2_with fail
  go_region_held3 (fun WW => WW.cell? ⟨w.heap.size, 0, none⟩ = some (.int .i64 r0.1) ∧ WW.cell? ⟨w.heap.size, 1, none⟩ = some (.int .i64 r1.1) ∧ WW.cell? ⟨w.heap.size, 2, none⟩ = some (.int .i64 r2.1) ∧ WW.cell? ⟨w.heap.size, 3, none⟩ = some (.int .i64 r3.1) ∧ WW.cell? ⟨w.heap.size, 4, none⟩ = some (.int .i64 r4.1) ∧ WW.cell? ⟨w.heap.size, 5, none⟩ = some (.int .i64 r5.1) ∧ WW.cell? ⟨w.heap.size, 6, none⟩ = some (.int .i64 r6.1) ∧ WW.cell? ⟨w.heap.size + 1, 0, none⟩ = some (.slice a7 r7.1.length k7) ∧ WW.cell? ⟨w.heap.size + 1, 1, none⟩ = some (.slice a8 r8.1.length k8) ∧ WW.cell? ⟨w.heap.size + 1, 2, none⟩ = some (.slice a9 r9.1.length k9) ∧ WW.cell? ⟨w.heap.size + 1 + 1, 1, none⟩ = some (.int .i64 r9.2.1))
   (first
    | with_reducible exact F0.out
    | with_reducible exact FA.out
    | with_reducible exact FB.out
    | fail)
   (fail)
  rename_i hH
  clear hH F0 FA FB
  go_wp2
  refine bodyPost_ret (results_cct rfl _ _ w.heap.size 23 #[.int .i64 r0.1, .int .i64 r1.1, .int .i64 r2.1, .int .i64 r3.1, .int .i64 r4.1, .int .i64 r5.1, .int .i64 r6.1] (0, 0) _ (w.heap.size + 1) 28 #[.slice a7 r7.1.length k7, .slice a8 r8.1.length k8, .slice a9 r9.1.length k9] (0, 0) _ rfl (dr_heap hC9) Tryz.underlying23 rfl (by kernel_rfl) rfl (dr_heap hS9) Tryz.underlying28 rfl (by kernel_rfl)) rfl ?_
  unfold rdPost
  rw [HW.out]
  exact ⟨⟨a7, r7.1.length, k7⟩, ⟨a8, r8.1.length, k8⟩, ⟨a9, r9.1.length, k9⟩, rfl, ⟨dr_slr (f := triC) (fun _ => rfl) rfl o7_9, dr_slr (f := bxC) (fun _ => rfl) rfl o8_9, dr_slr (f := hpC) (fun _ => rfl) rfl o9_9⟩, gn_below hG9.drew⟩

end Go.Proofs.YtgfmdgiepomkiaaGreat
