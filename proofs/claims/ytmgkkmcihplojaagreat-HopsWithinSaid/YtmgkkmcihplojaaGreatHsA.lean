/- Walks: soup.AddHop at a soup of nothing. -/
import Derived.Test.YtmgkkmcihplojaaGreatLc
import Derived.Test.YtmgkkmcihplojaaGreatGp
import Derived.Test.YtmgkkmcihplojaaGreatKi
import Derived.Test.YtmgkkmcihplojaaGreatHh
import Derived.Test.YtmgkkmcihplojaaGreatKo
import Derived.Test.YtmgkkmcihplojaaGreatRctA
namespace Go.Proofs.YtmgkkmcihplojaaGreat
open Go.RowKit Go.Sort
attribute [local go_sem] Instr.index
theorem cas8 {P : (i : Nat) → i < 8 → Prop} (h0 : P 0 (by decide)) (h1 : P 1 (by decide)) (h2 : P 2 (by decide)) (h3 : P 3 (by decide)) (h4 : P 4 (by decide)) (h5 : P 5 (by decide)) (h6 : P 6 (by decide)) (h7 : P 7 (by decide)) (i : Nat) (h : i < 8) : P i h := by
  by_cases e : i < 4
  · rcases (by omega : i = 0 ∨ i = 1 ∨ i = 2 ∨ i = 3) with rfl | rfl | rfl | rfl <;> assumption
  · rcases (by omega : i = 4 ∨ i = 5 ∨ i = 6 ∨ i = 7) with rfl | rfl | rfl | rfl <;> assumption
theorem cas9 {P : (i : Nat) → i < 9 → Prop} (h0 : P 0 (by decide)) (h1 : P 1 (by decide)) (h2 : P 2 (by decide)) (h3 : P 3 (by decide)) (h4 : P 4 (by decide)) (h5 : P 5 (by decide)) (h6 : P 6 (by decide)) (h7 : P 7 (by decide)) (h8 : P 8 (by decide)) (i : Nat) (h : i < 9) : P i h := by
  by_cases e : i < 4
  · rcases (by omega : i = 0 ∨ i = 1 ∨ i = 2 ∨ i = 3) with rfl | rfl | rfl | rfl <;> assumption
  · rcases (by omega : i = 4 ∨ i = 5 ∨ i = 6 ∨ i = 7 ∨ i = 8) with rfl | rfl | rfl | rfl | rfl <;> assumption
theorem cas11 {P : (i : Nat) → i < 11 → Prop} (h0 : P 0 (by decide)) (h1 : P 1 (by decide)) (h2 : P 2 (by decide)) (h3 : P 3 (by decide)) (h4 : P 4 (by decide)) (h5 : P 5 (by decide)) (h6 : P 6 (by decide)) (h7 : P 7 (by decide)) (h8 : P 8 (by decide)) (h9 : P 9 (by decide)) (h10 : P 10 (by decide)) (i : Nat) (h : i < 11) : P i h := by
  by_cases e : i < 5
  · rcases (by omega : i = 0 ∨ i = 1 ∨ i = 2 ∨ i = 3 ∨ i = 4) with rfl | rfl | rfl | rfl | rfl <;> assumption
  · rcases (by omega : i = 5 ∨ i = 6 ∨ i = 7 ∨ i = 8 ∨ i = 9 ∨ i = 10) with rfl | rfl | rfl | rfl | rfl | rfl <;> assumption
theorem setCell_idH {w : World} {b i : Nat} {cs : Array Value} {t : TypeId} {fr : Nat × Nat} {v : Value} (h : w.heap[b]? = some (.cells cs t fr)) (hv : cs[i]? = some v) : w.setCell ⟨b, i, none⟩ v = w := by
  obtain ⟨hb, hbe⟩ := Array.getElem?_eq_some_iff.1 h
  obtain ⟨hi, hve⟩ := Array.getElem?_eq_some_iff.1 hv
  have e : w.heap.modify b (fun o => match o with | .cells c elem frozen => .cells (if (none : Option Nat).isSome then c else c.setIfInBounds i v) elem frozen | o => o) = w.heap := by
    apply Array.ext
    · simp
    · intro k h1 h2
      rw [Array.getElem_modify]
      split
      · rename_i hk
        subst hk
        rw [hbe]
        subst hve
        simp [Array.setIfInBounds, hi]
      · rfl
  unfold World.setCell
  exact congrArg (fun H => { w with heap := H }) e
theorem results_c1h {P : Program} {fn : Func} {p : Tmp} {ty : TypeId} (h : fn.results = #[.cell p ty]) (tmps : Array Value) (w : World) (g : Nat) (t : TypeId) (cs : Array Value) (fr : Nat × Nat) (d : TypeDesc)
    (hp : tmps.getD p undef = .pointer (some ⟨g, 0, none⟩)) (hg : w.heap[g]? = some (.cells cs t fr))
    (hu : P.underlying ty = some d) (hd : (match d with | .struct _ | .array _ _ => true | _ => false) = true) (hi : (P.info? ty).map (·.size) = some cs.size) :
    (results fn tmps).run P w = .ok (.agg cs) w := by
  have e1 : tmps[p]?.getD undef = .pointer (some ⟨g, 0, none⟩) := by simpa using hp
  simp [results, h, e1, asAddr, run_loadVar_row w g t ty cs fr d hg hu hd hi]
theorem hpC_lenH (h : Hp) : (hpC h).length = 10 := rfl
theorem hpC_oneH (h : Hp) : ∀ u ∈ hpC h, u.oneCell' = true := by
  intro u hu
  simp only [hpC, List.mem_cons, List.not_mem_nil, or_false] at hu
  rcases hu with rfl | rfl | rfl | rfl | rfl | rfl | rfl | rfl | rfl | rfl <;> rfl
theorem info_hopH : (Tryz.prog.info? 46).map (fun i => (i.zero, i.size, i.bytes)) = some (some (.agg #[.int .i64 0, .int .i64 0, .int .i64 0, .int .i64 0, .int .i64 0, .int .i64 0, .int .i64 0, .bool false, .int .i64 0, .int .i64 0]), 10, 80) := by kernel_rfl
set_option maxRecDepth 100000 in
set_option maxHeartbeats 4000000 in
theorem hcloneTri_any (w : World) : Calls Tryz.prog 78 #[.slice none 0 0] w fun e w' => e = .returned (.slice none 0 0) ∧ Below w.heap.size w w' := by
  have q := fun w => Lib.run_eql_slice_nil (P := Tryz.prog) w 56 _ none 0 0 0 0 Tryz.underlying56
  go_enter Tryz.func78, Tryz.ntmps78
  go_wp2
  go_ret
  exact ⟨rfl, Below.refl _ _⟩
set_option maxRecDepth 100000 in
set_option maxHeartbeats 4000000 in
theorem hcloneBox_any (w : World) : Calls Tryz.prog 79 #[.slice none 0 0] w fun e w' => e = .returned (.slice none 0 0) ∧ Below w.heap.size w w' := by
  have q := fun w => Lib.run_eql_slice_nil (P := Tryz.prog) w 57 _ none 0 0 0 0 Tryz.underlying57
  go_enter Tryz.func79, Tryz.ntmps79
  go_wp2
  go_ret
  exact ⟨rfl, Below.refl _ _⟩
set_option maxRecDepth 100000 in
set_option maxHeartbeats 4000000 in
theorem hcloneHop_any (w : World) : Calls Tryz.prog 38 #[.slice none 0 0] w fun e w' => e = .returned (.slice none 0 0) ∧ Below w.heap.size w w' := by
  have q := fun w => Lib.run_eql_slice_nil (P := Tryz.prog) w 47 _ none 0 0 0 0 Tryz.underlying47
  go_enter Tryz.func38, Tryz.ntmps38
  go_wp2
  go_ret
  exact ⟨rfl, Below.refl _ _⟩
set_option maxRecDepth 100000 in
set_option maxHeartbeats 4000000 in
theorem hbin_any (n : Int) (F : Value) (w : World) : Calls Tryz.prog 35 #[.slice none 0 0, .int .i64 n, F] w fun e w' => e = .returned (.tuple #[.int .i64 0, .bool false]) ∧ Below w.heap.size w w' := by
  go_enter Tryz.func35, Tryz.ntmps35
  go_wp2_with fail
  go_loopw [9, 10] (fun s9 s10 wr => s9 = .int .i64 0 ∧ s10 = .int .i64 0 ∧ Below w.heap.size w wr) (fun _ _ _ => 0)
  case atStart => exact ⟨rfl, rfl, Below.refl _ _⟩
  case round =>
    obtain ⟨rfl, rfl, hb⟩ := hrel
    go_wp2
    go_ret2
    exact ⟨rfl, hb⟩
/-- One hop in a block of its own. -/
theorem SlR.oneH (h : Hp) (w : World) : SlR hpC 10 (w.alloc (.cells (hpC h).toArray 46 (0, 0))) (some ⟨w.heap.size, 0, none⟩) 1 1 [h] := by
  refine ⟨rfl, Nat.le_refl _, by decide, .inr ⟨w.heap.size, 0, rfl, by simp, fun i x hx j v hv => ?_⟩⟩
  obtain rfl : i = 0 := by have := (List.getElem?_eq_some_iff.1 hx).1; simp at this; omega
  cases hx
  have hn := World.alloc_heap_new w (.cells (hpC h).toArray 46 (0, 0))
  simp only [Nat.zero_mul, Nat.zero_add]
  exact hcell (k := j) hn (by simpa using hv)
/-- Some slice is told. -/
def SomeSl (w : World) (e : Ending) (w' : World) : Prop := (∃ a n c, e = .returned (.slice a n c)) ∧ Below w.heap.size w w'
set_option maxRecDepth 100000 in
set_option maxHeartbeats 8000000 in
theorem hins_any (h : Hp) (b c : Nat) (w : World) (hs : SlR hpC 10 w (some ⟨b, 0, none⟩) 1 c [h]) : Calls Tryz.prog 37 #[.slice none 0 0, .int .i64 0, .slice (some ⟨b, 0, none⟩) 1 c] w (SomeSl w) := by
  obtain ⟨S, hS⟩ : ∃ S, S = w.heap.size := ⟨_, rfl⟩
  have hSl : S ≤ w.heap.size := by omega
  have hb0 : ∀ v' w', OwnR hpC 10 46 S w' v' (0 + 1) ([] ++ [h]) → Below S w w' → SomeSl w (.returned v') w' := fun v' w' ho hb => by
    obtain ⟨a, c, rfl, _⟩ := OwnR.reads hpC_lenH ho
    rw [hS] at hb
    exact ⟨⟨_, _, _, rfl⟩, hb⟩
  have HB := Lib.hid hb0
  clear hb0 hS
  go_enter Tryz.func37, Tryz.ntmps37
  go_wp2_with (at_builtin; refine wpList_appSA (f := hpC) (sz := 10) (e := 46) _ hpC_lenH hpC_oneH rfl _ _ 47 rfl (.agg #[.int .i64 0, .int .i64 0, .int .i64 0, .int .i64 0, .int .i64 0, .int .i64 0, .int .i64 0, .bool false, .int .i64 0, .int .i64 0]) 80 Tryz.underlying47 info_hopH rfl (by decide) S (.slice none 0 0) 0 [] (OwnR.nil _ _ _ _ _) rfl (some ⟨b, 0, none⟩) 1 c [h] hs rfl (by omega) (by omega) hSl ?_; intro v' w' hown' hb')
  have HE := Lib.hid (HB.out v' w' hown' hb')
  obtain ⟨xa, xc, rfl, _⟩ := OwnR.reads hpC_lenH hown'
  clear hown' hb'
  go_wp2
  go_ret
  exact HE.out
/-- What is laid where hops' list is made: the config, the spot's closure. -/
def HoAt (cf : Cfg) (v : Value) (W : World) : Prop := ∃ Bc Bf, v = .agg (hopsV Bf).toArray ∧ W.cell? ⟨Bc, 5, none⟩ = some (.int .i64 cf.w) ∧ W.cell? ⟨Bc, 6, none⟩ = some (.int .i64 cf.d) ∧ W.cell? ⟨Bf, 0, none⟩ = some (.func (.func 30) #[] #[.pointer (some ⟨Bc, 0, none⟩)])
theorem cellB {w w' : World} (hb : Below w.heap.size w w') {p : Addr} {v : Value} (h : w.cell? p = some v) : w'.cell? p = some v := (hb.cell (World.block_lt_of_cell? w p h)).trans h
theorem HoAt.below {cf : Cfg} {v : Value} {w w' : World} (h : HoAt cf v w) (hb : Below w.heap.size w w') : HoAt cf v w' := by
  obtain ⟨Bc, Bf, e, h1, h2, h3⟩ := h
  exact ⟨Bc, Bf, e, cellB hb h1, cellB hb h2, cellB hb h3⟩
/-- A slice and no error are told. -/
def AdPost (w : World) (e : Ending) (w' : World) : Prop := (∃ a n c, e = .returned (.tuple #[.slice a n c, .int .i64 0])) ∧ Below w.heap.size w w'
set_option maxRecDepth 100000 in
set_option maxHeartbeats 8000000 in
theorem hadd_any (cf : Cfg) (h : Hp) (v : Value) (w : World) (hv : HoAt cf v w) (hok : (idOk h.id && hpOk cf.w cf.d h) = true) :
    Calls Tryz.prog 23 #[v, .slice none 0 0, .agg (hpC h).toArray] w (AdPost w) := by
  obtain ⟨Bc, Bf, rfl, c1, c2, c3⟩ := hv
  have ON := Lib.hid (fun W (hb : Below w.heap.size w W) => one_hp cf.w cf.d h Bc Bf W (cellB hb c1) (cellB hb c2) (cellB hb c3))
  rw [hok] at ON
  have ID := Lib.hid (fun W => hopid_any h W)
  have BS := Lib.hid (fun n F W => hbin_any n F W)
  have CL := Lib.hid (fun W => hcloneHop_any W)
  have IN := Lib.hid (fun b c W hs => hins_any h b c W hs)
  clear c1 c2 c3 hok
  dsimp only [hopsV, hpC] at ON ID ⊢
  have hB : Below w.heap.size w ((w.alloc (.cells #[.func (.func 32) #[] #[], .func (.func 33) #[] #[.pointer (some ⟨Bf, 0, none⟩)], .int .i64 16, .int .i64 2] 75 (0, 0))).alloc (.cells #[.int .i64 h.id, .int .i64 h.a.x, .int .i64 h.a.z, .int .i64 h.a.y, .int .i64 h.b.x, .int .i64 h.b.z, .int .i64 h.b.y, .bool h.both, .int .i64 h.area, .int .i64 h.cost] 46 (0, 0))) := ((Below.refl _ _).alloc (Nat.le_refl _) _).alloc (by simp) _
  have hL := halloc (World.alloc_heap_new w (.cells #[.func (.func 32) #[] #[], .func (.func 33) #[] #[.pointer (some ⟨Bf, 0, none⟩)], .int .i64 16, .int .i64 2] 75 (0, 0))) (.cells #[.int .i64 h.id, .int .i64 h.a.x, .int .i64 h.a.z, .int .i64 h.a.y, .int .i64 h.b.x, .int .i64 h.b.z, .int .i64 h.b.y, .bool h.both, .int .i64 h.area, .int .i64 h.cost] 46 (0, 0))
  have hH := World.alloc_heap_new (w.alloc (.cells #[.func (.func 32) #[] #[], .func (.func 33) #[] #[.pointer (some ⟨Bf, 0, none⟩)], .int .i64 16, .int .i64 2] 75 (0, 0))) (.cells #[.int .i64 h.id, .int .i64 h.a.x, .int .i64 h.a.z, .int .i64 h.a.y, .int .i64 h.b.x, .int .i64 h.b.z, .int .i64 h.b.y, .bool h.both, .int .i64 h.area, .int .i64 h.cost] 46 (0, 0))
  rw [World.size_alloc] at hH
  obtain ⟨W1, hW1⟩ : ∃ W, W = (w.alloc (.cells #[.func (.func 32) #[] #[], .func (.func 33) #[] #[.pointer (some ⟨Bf, 0, none⟩)], .int .i64 16, .int .i64 2] 75 (0, 0))).alloc (.cells #[.int .i64 h.id, .int .i64 h.a.x, .int .i64 h.a.z, .int .i64 h.a.y, .int .i64 h.b.x, .int .i64 h.b.z, .int .i64 h.b.y, .bool h.both, .int .i64 h.area, .int .i64 h.cost] 46 (0, 0)) := ⟨_, rfl⟩
  obtain ⟨S0, hS0⟩ : ∃ S, S = w.heap.size := ⟨_, rfl⟩
  obtain ⟨S1, hS1⟩ : ∃ S, S = S0 + 1 := ⟨_, rfl⟩
  rw [← hW1] at hB hL hH
  rw [← hS0] at hL hH
  rw [← hS1] at hH
  go_enter Tryz.func23, Tryz.ntmps23
  go_upto_region 1 with fail
  rw [← hW1, ← hS0, ← hS1]
  clear hW1 hS0 hS1
  have l0 := hcell (k := 0) (v := .func (.func 32) #[] #[]) hL rfl
  have l1 := hcell (k := 1) (v := .func (.func 33) #[] #[.pointer (some ⟨Bf, 0, none⟩)]) hL rfl
  have l2 := hcell (k := 2) (v := .int .i64 16) hL rfl
  have l3 := hcell (k := 3) (v := .int .i64 2) hL rfl
  have n0 := hcell (k := 0) (v := .int .i64 h.id) hH rfl
  have n1 := hcell (k := 1) (v := .int .i64 h.a.x) hH rfl
  have n2 := hcell (k := 2) (v := .int .i64 h.a.z) hH rfl
  have n3 := hcell (k := 3) (v := .int .i64 h.a.y) hH rfl
  have n4 := hcell (k := 4) (v := .int .i64 h.b.x) hH rfl
  have n5 := hcell (k := 5) (v := .int .i64 h.b.z) hH rfl
  have n6 := hcell (k := 6) (v := .int .i64 h.b.y) hH rfl
  have n7 := hcell (k := 7) (v := .bool h.both) hH rfl
  have n8 := hcell (k := 8) (v := .int .i64 h.area) hH rfl
  have n9 := hcell (k := 9) (v := .int .i64 h.cost) hH rfl
  go_wp2_with fail
  refine (ON.out _ hB).mono ?_
  rintro e w2 ⟨rfl, hb2⟩
  have hL2 := hkeep hb2 hL
  have hH2 := hkeep hb2 hH
  have hB2 := hB.trans (hb2.mono hB.size)
  clear l0 l1 l2 l3 n0 n1 n2 n3 n4 n5 n6 n7 n8 n9 hL hH hB hb2 ON
  have l0 := hcell (k := 0) (v := .func (.func 32) #[] #[]) hL2 rfl
  have l1 := hcell (k := 1) (v := .func (.func 33) #[] #[.pointer (some ⟨Bf, 0, none⟩)]) hL2 rfl
  have l2 := hcell (k := 2) (v := .int .i64 16) hL2 rfl
  have l3 := hcell (k := 3) (v := .int .i64 2) hL2 rfl
  have n0 := hcell (k := 0) (v := .int .i64 h.id) hH2 rfl
  have n1 := hcell (k := 1) (v := .int .i64 h.a.x) hH2 rfl
  have n2 := hcell (k := 2) (v := .int .i64 h.a.z) hH2 rfl
  have n3 := hcell (k := 3) (v := .int .i64 h.a.y) hH2 rfl
  have n4 := hcell (k := 4) (v := .int .i64 h.b.x) hH2 rfl
  have n5 := hcell (k := 5) (v := .int .i64 h.b.z) hH2 rfl
  have n6 := hcell (k := 6) (v := .int .i64 h.b.y) hH2 rfl
  have n7 := hcell (k := 7) (v := .bool h.both) hH2 rfl
  have n8 := hcell (k := 8) (v := .int .i64 h.area) hH2 rfl
  have n9 := hcell (k := 9) (v := .int .i64 h.cost) hH2 rfl
  go_wp2_with fail
  refine (ID.out _).mono ?_
  rintro e w3 ⟨rfl, hw3⟩
  have hb3 : Below w2.heap.size w2 w3 := by rw [hw3]; exact (Below.refl _ _).alloc (Nat.le_refl _) _
  have hL3 := hkeep hb3 hL2
  have hH3 := hkeep hb3 hH2
  have hB3 := hB2.trans (hb3.mono hB2.size)
  clear l0 l1 l2 l3 n0 n1 n2 n3 n4 n5 n6 n7 n8 n9 hL2 hH2 hB2 hb3 ID hw3
  go_wp2_with fail
  refine (BS.out _ _ _).mono ?_
  rintro e w4 ⟨rfl, hb4⟩
  have hL4 := hkeep hb4 hL3
  have hH4 := hkeep hb4 hH3
  have hB4 := hB3.trans (hb4.mono hB3.size)
  clear hL3 hH3 hB3 hb4 BS
  have l2 := hcell (k := 2) (v := .int .i64 16) hL4 rfl
  go_upto_region 8 with fail
  clear l2 hL4
  have HH4 := Lib.hid hH4
  have HB4 := Lib.hid hB4
  clear hH4 hB4
  refine wp_region_det ([none, none, none, none, none, none, some 6, some 7, none, none, none, none, none, none, none, none, none, none, none, none, none, none, none, none, none, none, none, none, none, none, none, none, none, none, some 0, some 1, some 2, some 3, some 4, some 5]) [fun v _ => v = .slice none 0 0,
        fun v _ => v = .slice none 0 0,
        fun v _ => v = .int .i64 0,
        fun v _ => v = .agg #[.int .i64 h.id, .int .i64 h.a.x, .int .i64 h.a.z, .int .i64 h.a.y, .int .i64 h.b.x, .int .i64 h.b.z, .int .i64 h.b.y, .bool h.both, .int .i64 h.area, .int .i64 h.cost],
        fun v W => ∃ B, v = .slice (some ⟨B, 0, none⟩) 1 1 ∧ SlR hpC 10 W (some ⟨B, 0, none⟩) 1 1 [h],
        fun v _ => ∃ a n c, v = .slice a n c,
        fun v _ => ∃ a n c, v = .slice a n c,
        fun v _ => v = .int .i64 0] (by kernel_rfl) (by kernel_rfl) (by kernel_rfl) (by kernel_rfl) ?_ ?_ ?_
  · refine List.forall_mem_cons.2 ⟨fun _ _ _ h _ => h, List.forall_mem_cons.2 ⟨fun _ _ _ h _ => h, List.forall_mem_cons.2 ⟨fun _ _ _ h _ => h, List.forall_mem_cons.2 ⟨fun _ _ _ h _ => h, List.forall_mem_cons.2 ⟨fun v w w2 hh hb => by obtain ⟨B, e, hs⟩ := hh; exact ⟨B, e, hs.below hb (Nat.le_refl _)⟩, List.forall_mem_cons.2 ⟨fun _ _ _ h _ => h, List.forall_mem_cons.2 ⟨fun _ _ _ h _ => h, List.forall_mem_cons.2 ⟨fun _ _ _ h _ => h, List.forall_mem_nil _⟩⟩⟩⟩⟩⟩⟩⟩
  · intro Q' K t vals wi hoff hon hB i hlt
    have hlt : i < 8 := hlt
    cases i, hlt using cas8
    · intro hS hK
      have g1 : t[(1 : Nat)]? = some (.slice none 0 0) := hoff 1 _ rfl rfl
      clear hoff hon hS
      refine wpOp_of rfl rfl ?_
      go_simp
      exact hK.out _ _ rfl (Below.refl _ _)
    · intro hS hK
      have g34 : t[(34 : Nat)]? = some (.slice none 0 0) := (hon 0 34 rfl).trans (congrArg some (hS 0 (by kernel_rfl)))
      clear hoff hon hS
      refine wpOp_of rfl rfl ?_
      go_simp
      go_at_call 38
      refine (CL.out _).mono ?_
      rintro e wz ⟨rfl, hbz⟩
      (try go_simp)
      exact hK.out _ _ rfl hbz
    · intro hS hK
      have g8 : t[(8 : Nat)]? = some (.int .i64 0) := hoff 8 _ rfl rfl
      clear hoff hon hS
      refine wpOp_of rfl rfl ?_
      go_simp
      exact hK.out _ _ rfl (Below.refl _ _)
    · intro hS hK
      have g5 : t[(5 : Nat)]? = some (.pointer (some ⟨S1, 0, none⟩)) := hoff 5 _ rfl rfl
      have hR := hkeep hB HH4.out
      have n0 := hcell (k := 0) (v := .int .i64 h.id) hR rfl
      have n1 := hcell (k := 1) (v := .int .i64 h.a.x) hR rfl
      have n2 := hcell (k := 2) (v := .int .i64 h.a.z) hR rfl
      have n3 := hcell (k := 3) (v := .int .i64 h.a.y) hR rfl
      have n4 := hcell (k := 4) (v := .int .i64 h.b.x) hR rfl
      have n5 := hcell (k := 5) (v := .int .i64 h.b.z) hR rfl
      have n6 := hcell (k := 6) (v := .int .i64 h.b.y) hR rfl
      have n7 := hcell (k := 7) (v := .bool h.both) hR rfl
      have n8 := hcell (k := 8) (v := .int .i64 h.area) hR rfl
      have n9 := hcell (k := 9) (v := .int .i64 h.cost) hR rfl
      clear hoff hon hS
      refine wpOp_of rfl rfl ?_
      go_simp
      exact hK.out _ _ rfl (Below.refl _ _)
    · intro hS hK
      have g37 : t[(37 : Nat)]? = some (.agg #[.int .i64 h.id, .int .i64 h.a.x, .int .i64 h.a.z, .int .i64 h.a.y, .int .i64 h.b.x, .int .i64 h.b.z, .int .i64 h.b.y, .bool h.both, .int .i64 h.area, .int .i64 h.cost]) := (hon 3 37 rfl).trans (congrArg some (hS 3 (by kernel_rfl)))
      clear hoff hon hS
      refine wpOp_of rfl rfl ?_
      go_simp
      exact hK.out _ _ ⟨wi.heap.size, rfl, SlR.oneH h wi⟩ ((Below.refl _ _).alloc (Nat.le_refl _) _)
    · intro hS hK
      have g35 : t[(35 : Nat)]? = some (.slice none 0 0) := (hon 1 35 rfl).trans (congrArg some (hS 1 (by kernel_rfl)))
      have g36 : t[(36 : Nat)]? = some (.int .i64 0) := (hon 2 36 rfl).trans (congrArg some (hS 2 (by kernel_rfl)))
      have g38 : t[(38 : Nat)]? = some (vals 4) := hon 4 38 rfl
      have p38 : (fun v W => ∃ B, v = .slice (some ⟨B, 0, none⟩) 1 1 ∧ SlR hpC 10 W (some ⟨B, 0, none⟩) 1 1 [h]) (vals 4) wi := hS 4 (by kernel_rfl)
      dsimp only at p38
      obtain ⟨B, eB, hsB⟩ := p38
      rw [eB] at g38
      clear hoff hon hS
      refine wpOp_of rfl rfl ?_
      go_simp
      go_at_call 37
      refine (IN.out _ _ _ hsB).mono ?_
      rintro e wz ⟨⟨xa, xn, xc, rfl⟩, hbz⟩
      (try go_simp)
      exact hK.out _ _ ⟨xa, xn, xc, rfl⟩ hbz
    · intro hS hK
      have g39 : t[(39 : Nat)]? = some (vals 5) := hon 5 39 rfl
      have p39 : (fun v _ => ∃ a n c, v = .slice a n c) (vals 5) wi := hS 5 (by kernel_rfl)
      dsimp only at p39
      clear hoff hon hS
      refine wpOp_of rfl rfl ?_
      go_simp
      exact hK.out _ _ p39 (Below.refl _ _)
    · intro hS hK
      clear hoff hon hS
      refine wpOp_of rfl rfl ?_
      go_simp
      exact hK.out _ _ rfl (Below.refl _ _)
  · intro vals wi hB hS
    have e0 : vals 0 = .slice none 0 0 := hS 0 (by decide)
    have e1 : vals 1 = .slice none 0 0 := hS 1 (by decide)
    have e2 : vals 2 = .int .i64 0 := hS 2 (by decide)
    have e3 : vals 3 = .agg #[.int .i64 h.id, .int .i64 h.a.x, .int .i64 h.a.z, .int .i64 h.a.y, .int .i64 h.b.x, .int .i64 h.b.z, .int .i64 h.b.y, .bool h.both, .int .i64 h.area, .int .i64 h.cost] := hS 3 (by decide)
    have p4 : (fun v W => ∃ B, v = .slice (some ⟨B, 0, none⟩) 1 1 ∧ SlR hpC 10 W (some ⟨B, 0, none⟩) 1 1 [h]) (vals 4) wi := hS 4 (by decide)
    dsimp only at p4
    have p5 : (fun v _ => ∃ a n c, v = .slice a n c) (vals 5) wi := hS 5 (by decide)
    dsimp only at p5
    have p6 : (fun v _ => ∃ a n c, v = .slice a n c) (vals 6) wi := hS 6 (by decide)
    dsimp only at p6
    have e7 : vals 7 = .int .i64 0 := hS 7 (by decide)
    clear hS
    dsimp only [over]
    obtain ⟨xa, xn, xc, e39⟩ := p6
    rw [e39, e7]
    clear e0 e1 e2 e3 p4 p5 e39 e7
    go_wp2
    go_ret2
    exact And.intro ⟨xa, xn, xc, rfl⟩ (HB4.out.trans (hB.mono HB4.out.size))
end Go.Proofs.YtmgkkmcihplojaaGreat
