/- Walk: the law's rectangle of one height. -/
import Derived.Test.YtjiklfffcnfdjaaDrW
import Derived.Test.YtjiklfffcnfdjaaMem
namespace Go.Proofs.Ytjiklfffcnfdjaa
open Go.RowKit Go.Sort

def flR (x0 z0 x1 z1 y : Int) (n : Nat) : Rc := ⟨x0, z0, x1, z1, 1, List.replicate n y, List.replicate n (y + 9)⟩
theorem info_intF : (Try.prog.info? 3).map (fun i => (i.zero, i.size, i.bytes)) = some (some (.int .i64 0), 1, 8) := by kernel_rfl
structure FlAt (T : Nat) (x0 z0 x1 z1 y : Int) (k : Nat) (v5 v6 : Value) (w W : World) : Prop where
  blk : W.heap[T + 1]? = some (.cells #[.int .i64 x0, .int .i64 z0, .int .i64 x1, .int .i64 z1, .int .i64 1, v5, v6] 26 (0, 0))
  res : W.heap[T]? = some (.cells #[.int .i64 0, .int .i64 0, .int .i64 0, .int .i64 0, .int .i64 0, .slice none 0 0, .slice none 0 0] 26 (0, 0))
  y5 : OwnI .i64 3 (T + 2) W v5 k (List.replicate k y)
  y6 : OwnI .i64 3 (T + 2) W v6 k (List.replicate k (y + 9))
  ne : v5.ownBlock = none ∨ v5.ownBlock ≠ v6.ownBlock
  below : Below T w W
theorem own_apart {v : Value} {B : Nat} {W : World} {n : Nat} {xs : List Int} (h : OwnI .i64 3 B W v n xs) {b : Nat} (hb : b < B) : v.ownBlock ≠ some b := fun e => by have := (h.lt b e).1; omega
theorem grownBy_setCellF (w : World) (b i : Nat) (v : Value) : w.grownBy (w.setCell ⟨b, i, none⟩ v) (some b) :=
  ⟨rfl, rfl, rfl, by simp, fun k _ hk => Below.heap_setCell _ _ _ _ (fun e => hk (by simp [e]))⟩
theorem ne_turn {a b : Option Nat} (h : a = none ∨ a ≠ b) : b = none ∨ b ≠ a := by
  cases b with
  | none => exact .inl rfl
  | some j =>
    refine .inr fun e => ?_
    rcases h with h | h
    · rw [h] at e; cases e
    · exact h e.symm
theorem ne_new {v v' u : Value} {W W1 : World} (h : v.ownBlock = none ∨ v.ownBlock ≠ u.ownBlock) (ha : Appd W W1 v v') (hu : ∀ j, u.ownBlock = some j → j < W.heap.size) : v'.ownBlock = none ∨ v'.ownBlock ≠ u.ownBlock := by
  rcases ha.own with e | e
  · rw [e]; exact h
  · cases hv : v'.ownBlock with
    | none => exact .inl rfl
    | some j =>
      refine .inr fun q => ?_
      have h1 := e j hv
      have h2 := hu j q.symm
      omega
/-- Behind the append to the first row, and its store. -/
theorem FlAt.step5 {T : Nat} {x0 z0 x1 z1 y : Int} {k : Nat} {v5 v6 v' : Value} {w W W1 : World} (h : FlAt T x0 z0 x1 z1 y k v5 v6 w W) (ho : OwnI .i64 3 (T + 2) W1 v' (k + 1) (List.replicate k y ++ [y])) (ha : Appd W W1 v5 v') :
    W1.heap[T + 1]? = some (.cells #[.int .i64 x0, .int .i64 z0, .int .i64 x1, .int .i64 z1, .int .i64 1, v5, v6] 26 (0, 0)) ∧ (W1.setCell ⟨T + 1, 5, none⟩ v').heap[T + 1]? = some (.cells #[.int .i64 x0, .int .i64 z0, .int .i64 x1, .int .i64 z1, .int .i64 1, v', v6] 26 (0, 0)) ∧ (W1.setCell ⟨T + 1, 5, none⟩ v').heap[T]? = some (.cells #[.int .i64 0, .int .i64 0, .int .i64 0, .int .i64 0, .int .i64 0, .slice none 0 0, .slice none 0 0] 26 (0, 0)) ∧
      OwnI .i64 3 (T + 2) (W1.setCell ⟨T + 1, 5, none⟩ v') v' (k + 1) (List.replicate (k + 1) y) ∧ OwnI .i64 3 (T + 2) (W1.setCell ⟨T + 1, 5, none⟩ v') v6 k (List.replicate k (y + 9)) ∧ (v'.ownBlock = none ∨ v'.ownBlock ≠ v6.ownBlock) ∧ Below T w (W1.setCell ⟨T + 1, 5, none⟩ v') := by
  have hG := grownBy_setCellF W1 (T + 1) 5 v'
  have b1 := hgrown ha.grown h.blk (own_apart h.y5 (by omega))
  have r1 := hgrown ha.grown h.res (own_apart h.y5 (by omega))
  have o6 := h.y6.kept ha.grown (ne_turn h.ne)
  have hT1 := hblt h.blk
  refine ⟨b1, (heap_setCell_same W1 (T + 1) 5 _ _ v' b1).trans rfl, hgrown hG r1 (by simp only [ne_eq, Option.some.injEq]; omega), ?_, o6.kept hG (.inr (own_apart o6 (by omega))), ne_new h.ne ha (fun j hj => (h.y6.lt j hj).2), ?_⟩
  · rw [List.replicate_succ']
    exact ho.kept hG (.inr (own_apart ho (by omega)))
  · exact (h.below.trans (ha.below (by omega) (fun j hj => by have := (h.y5.lt j hj).1; omega))).setCell (p := ⟨T + 1, 5, none⟩) (by show T ≤ T + 1; omega) v'
theorem FlAt.step6 {T : Nat} {x0 z0 x1 z1 y : Int} {k : Nat} {v5 v6 v' : Value} {w W W1 : World}
    (blk : W.heap[T + 1]? = some (.cells #[.int .i64 x0, .int .i64 z0, .int .i64 x1, .int .i64 z1, .int .i64 1, v5, v6] 26 (0, 0))) (res : W.heap[T]? = some (.cells #[.int .i64 0, .int .i64 0, .int .i64 0, .int .i64 0, .int .i64 0, .slice none 0 0, .slice none 0 0] 26 (0, 0)))
    (y5 : OwnI .i64 3 (T + 2) W v5 (k + 1) (List.replicate (k + 1) y)) (y6 : OwnI .i64 3 (T + 2) W v6 k (List.replicate k (y + 9))) (ne : v5.ownBlock = none ∨ v5.ownBlock ≠ v6.ownBlock) (below : Below T w W)
    (ho : OwnI .i64 3 (T + 2) W1 v' (k + 1) (List.replicate k (y + 9) ++ [y + 9])) (ha : Appd W W1 v6 v') :
    W1.heap[T + 1]? = some (.cells #[.int .i64 x0, .int .i64 z0, .int .i64 x1, .int .i64 z1, .int .i64 1, v5, v6] 26 (0, 0)) ∧ FlAt T x0 z0 x1 z1 y (k + 1) v5 v' w (W1.setCell ⟨T + 1, 6, none⟩ v') := by
  have hG := grownBy_setCellF W1 (T + 1) 6 v'
  have b1 := hgrown ha.grown blk (own_apart y6 (by omega))
  have r1 := hgrown ha.grown res (own_apart y6 (by omega))
  have o5 := y5.kept ha.grown ne
  have hT1 := hblt blk
  refine ⟨b1, (heap_setCell_same W1 (T + 1) 6 _ _ v' b1).trans rfl, hgrown hG r1 (by simp only [ne_eq, Option.some.injEq]; omega), o5.kept hG (.inr (own_apart o5 (by omega))), ?_, ?_, ?_⟩
  · rw [List.replicate_succ']
    exact ho.kept hG (.inr (own_apart ho (by omega)))
  · exact ne_turn (ne_new (ne_turn ne) ha (fun j hj => (y5.lt j hj).2))
  · exact (below.trans (ha.below (by omega) (fun j hj => by have := (y6.lt j hj).1; omega))).setCell (p := ⟨T + 1, 6, none⟩) (by show T ≤ T + 1; omega) v'

set_option maxHeartbeats 800000 in
theorem flat_any (x0 z0 x1 z1 y a1 a2 b1 b2 : Int) (n : Nat) (w : World) (hn : n ≤ 100) (hy : -1000 ≤ y ∧ y ≤ 1000) (q1 : IntKind.i64.wrap (x1 - x0) = a1) (q2 : IntKind.i64.wrap (a1 + 1) = a2) (q3 : IntKind.i64.wrap (z1 - z0) = b1) (q4 : IntKind.i64.wrap (b1 + 1) = b2) (q5 : IntKind.i64.wrap (a2 * b2) = (n : Int)) :
    Calls Try.prog 44 #[.int .i64 x0, .int .i64 z0, .int .i64 x1, .int .i64 z1, .int .i64 y] w fun e w' => ∃ h, e = .returned (rcV h (flR x0 z0 x1 z1 y n)) ∧ RcSl w' h (flR x0 z0 x1 z1 y n) ∧ Below w.heap.size w w' := by
  have q6 : IntKind.i64.wrap (y + 9) = y + 9 := by rw [IntKind.wrap_i64]; omega
  have hR0 := halloc (World.alloc_heap_new w (.cells #[.int .i64 0, .int .i64 0, .int .i64 0, .int .i64 0, .int .i64 0, .slice none 0 0, .slice none 0 0] 26 (0, 0))) (.cells #[.int .i64 x0, .int .i64 z0, .int .i64 x1, .int .i64 z1, .int .i64 1, .slice none 0 0, .slice none 0 0] 26 (0, 0))
  have hA0 := World.alloc_heap_new (w.alloc (.cells #[.int .i64 0, .int .i64 0, .int .i64 0, .int .i64 0, .int .i64 0, .slice none 0 0, .slice none 0 0] 26 (0, 0))) (.cells #[.int .i64 x0, .int .i64 z0, .int .i64 x1, .int .i64 z1, .int .i64 1, .slice none 0 0, .slice none 0 0] 26 (0, 0))
  have hB0 : Below w.heap.size w ((w.alloc (.cells #[.int .i64 0, .int .i64 0, .int .i64 0, .int .i64 0, .int .i64 0, .slice none 0 0, .slice none 0 0] 26 (0, 0))).alloc (.cells #[.int .i64 x0, .int .i64 z0, .int .i64 x1, .int .i64 z1, .int .i64 1, .slice none 0 0, .slice none 0 0] 26 (0, 0))) := ((Below.refl _ _).alloc (Nat.le_refl _) _).alloc (by simp) _
  rw [World.size_alloc] at hA0
  obtain ⟨W0, hW0⟩ : ∃ W0, W0 = (w.alloc (.cells #[.int .i64 0, .int .i64 0, .int .i64 0, .int .i64 0, .int .i64 0, .slice none 0 0, .slice none 0 0] 26 (0, 0))).alloc (.cells #[.int .i64 x0, .int .i64 z0, .int .i64 x1, .int .i64 z1, .int .i64 1, .slice none 0 0, .slice none 0 0] 26 (0, 0)) := ⟨_, rfl⟩
  rw [← hW0] at hR0 hA0 hB0
  have hfl : FlAt w.heap.size x0 z0 x1 z1 y 0 (.slice none 0 0) (.slice none 0 0) w W0 := ⟨hA0, hR0, OwnI.nil _ _ _ _, OwnI.nil _ _ _ _, .inl rfl, hB0⟩
  have HF := Lib.hid hfl
  clear hfl hA0 hR0 hB0
  go_enter Try.func44, Try.ntmps44
  go_upto_region 2 with fail
  rw [← hW0]
  clear hW0
  go_wp2
  go_loopw [12] (fun i wr => ∃ (k : Nat) (v5 v6 : Value), i = .int .i64 k ∧ k ≤ n ∧ FlAt w.heap.size x0 z0 x1 z1 y k v5 v6 w wr) (fun i _ => n - (intOf i).toNat)
  case atStart => exact ⟨0, _, _, rfl, Nat.zero_le _, HF.out⟩
  case round =>
    clear HF
    obtain ⟨k, v5, v6, rfl, hk, hF⟩ := hrel
    have hb := hF.below.size
    have hs1 := hblt hF.blk
    by_cases hlt : k < n
    · have hltI : (k : Int) < (n : Int) := by omega
      obtain ⟨y5a, y5c, rfl, _⟩ := hF.y5.reads
      have c5 := hcell (k := 5) (v := .slice y5a k y5c) hF.blk rfl
      have HF := Lib.hid hF
      clear hF
      go_wp2_with (at_builtin; refine wpList_app1 _ rfl _ _ 24 rfl (w.heap.size + 2) 3 .i64 8 Try.underlying24 info_intF _ _ _ y _ HF.out.y5 rfl rfl ?_ ?_ ?_ ?_)
      · omega
      · omega
      · omega
      intro v' W1 ho ha
      obtain ⟨s1, s2, s3, s4, s5, s6, s7⟩ := HF.out.step5 ho ha
      clear c5 HF
      have c5 := hcell (k := 5) (v := .slice y5a k y5c) s1 rfl
      have f5 := hfroz (k := 5) s1
      clear ho ha s1
      obtain ⟨W2, hW2⟩ : ∃ W2, W2 = W1.setCell ⟨w.heap.size + 1, 5, none⟩ v' := ⟨_, rfl⟩
      rw [← hW2] at s2 s3 s4 s5 s7
      obtain ⟨ya, yc, rfl, _⟩ := s4.reads
      obtain ⟨y6a, y6c, rfl, _⟩ := s5.reads
      have c6 := hcell (k := 6) (v := .slice y6a k y6c) s2 rfl
      have hs2 := hblt s2
      have HS := Lib.hid (And.intro s2 (And.intro s3 (And.intro s4 (And.intro s5 (And.intro s6 s7)))))
      clear s2 s3 s4 s5 s6 s7
      go_upto_region 6 with fail
      rw [← hW2]
      clear hW2 c5 f5
      go_wp2_with (at_builtin; refine wpList_app1 _ rfl _ _ 24 rfl (w.heap.size + 2) 3 .i64 8 Try.underlying24 info_intF _ _ _ (y + 9) _ HS.out.2.2.2.1 rfl rfl ?_ ?_ ?_ ?_)
      · omega
      · omega
      · omega
      intro v9 W3 ho ha
      obtain ⟨v9a, v9c, rfl, _⟩ := ho.reads
      obtain ⟨s2, s3, s4, s5, s6, s7⟩ := HS.out
      obtain ⟨t1, t2⟩ := FlAt.step6 s2 s3 s4 s5 s6 s7 ho ha
      have c6 := hcell (k := 6) (v := .slice y6a k y6c) t1 rfl
      have f6 := hfroz (k := 6) t1
      clear HS s2 s3 s4 s5 s6 s7 ho ha t1
      go_wp2
      go_roundw
      case rel => exact ⟨k + 1, _, _, by go_num, by omega, t2⟩
      case measure => simp [intOf]; omega
    · obtain rfl : k = n := by omega
      have hltI : ¬ (k : Int) < (k : Int) := by omega
      obtain ⟨y5a, y5c, rfl, r5⟩ := hF.y5.reads
      obtain ⟨y6a, y6c, rfl, r6⟩ := hF.y6.reads
      have hA := hF.blk
      have hR := hF.res
      have hB := hF.below
      have n5 := own_apart hF.y5 (b := w.heap.size) (by omega)
      have n6 := own_apart hF.y6 (b := w.heap.size) (by omega)
      clear hF
      have c0 := hcell (k := 0) (v := .int .i64 x0) hA rfl
      have ze0 := hcell (k := 0) (v := .int .i64 0) hR rfl
      have fz0 := hfroz (k := 0) hR
      have c1 := hcell (k := 1) (v := .int .i64 z0) hA rfl
      have ze1 := hcell (k := 1) (v := .int .i64 0) hR rfl
      have fz1 := hfroz (k := 1) hR
      have c2 := hcell (k := 2) (v := .int .i64 x1) hA rfl
      have ze2 := hcell (k := 2) (v := .int .i64 0) hR rfl
      have fz2 := hfroz (k := 2) hR
      have c3 := hcell (k := 3) (v := .int .i64 z1) hA rfl
      have ze3 := hcell (k := 3) (v := .int .i64 0) hR rfl
      have fz3 := hfroz (k := 3) hR
      have c4 := hcell (k := 4) (v := .int .i64 1) hA rfl
      have ze4 := hcell (k := 4) (v := .int .i64 0) hR rfl
      have fz4 := hfroz (k := 4) hR
      have c5 := hcell (k := 5) (v := .slice y5a k y5c) hA rfl
      have ze5 := hcell (k := 5) (v := .slice none 0 0) hR rfl
      have fz5 := hfroz (k := 5) hR
      have c6 := hcell (k := 6) (v := .slice y6a k y6c) hA rfl
      have ze6 := hcell (k := 6) (v := .slice none 0 0) hR rfl
      have fz6 := hfroz (k := 6) hR
      have HN := Lib.hid (bx7_set hR (.int .i64 x0) (.int .i64 z0) (.int .i64 x1) (.int .i64 z1) (.int .i64 1) (.slice y5a k y5c) (.slice y6a k y6c))
      have hG := bx7_grown (w := wr) (b := w.heap.size) (.int .i64 x0) (.int .i64 z0) (.int .i64 x1) (.int .i64 z1) (.int .i64 1) (.slice y5a k y5c) (.slice y6a k y6c)
      have hB9 := hB.grown hG hB.size (fun j hj => by cases hj; omega)
      have HR5 := Lib.hid (r5.grown hG (fun ad e q => n5 (by rw [e]; exact q.symm)))
      have HR6 := Lib.hid (r6.grown hG (fun ad e q => n6 (by rw [e]; exact q.symm)))
      clear r5 r6 n5 n6 hG hA hR
      go_wp2
      refine bodyPost_ret (results_c1 rfl _ _ w.heap.size 26 _ (0, 0) _ rfl HN.out Try.underlying26 rfl (by kernel_rfl)) rfl ⟨⟨y5a, y5c, y6a, y6c⟩, ?_, ⟨?_, ?_⟩, hB9⟩
      · simp [flR]
      · have := HR5.out; simpa [flR] using this
      · have := HR6.out; simpa [flR] using this
end Go.Proofs.Ytjiklfffcnfdjaa
