/- Walk: the reference's doors: All. -/
import Derived.Test.YtgfmdgiepomkiaaKi
import Derived.Test.YtgfmdgiepomkiaaKe
import Derived.Test.YtgfmdgiepomkiaaKo
import Derived.Test.YtgfmdgiepomkiaaDrH
namespace Go.Proofs.Ytgfmdgiepomkiaa
open Go.RowKit Go.Sort
attribute [local go_sem] Instr.index

def tgT (D : List Dr) (a b j : Nat) : List Dr := (D.take j).map (tagD a b)
def mxT (D : List Dr) (a b j : Nat) : List Dr := tgT D a b j ++ D.drop j
theorem tgT_succ {D : List Dr} {a b j : Nat} {d : Dr} (h : D[j]? = some d) : tgT D a b (j + 1) = tgT D a b j ++ [tagD a b d] := by
  unfold tgT
  rw [List.take_add_one, h, List.map_append]
  rfl
theorem tgT_len {D : List Dr} {a b j : Nat} (h : j ≤ D.length) : (tgT D a b j).length = j := by
  unfold tgT
  rw [List.length_map, List.length_take, Nat.min_eq_left h]
theorem mxT_len {D : List Dr} {a b j : Nat} (h : j ≤ D.length) : (mxT D a b j).length = D.length := by
  unfold mxT
  rw [List.length_append, tgT_len h, List.length_drop]
  omega
theorem mxT_at {D : List Dr} {a b j : Nat} {d : Dr} (h : D[j]? = some d) : (mxT D a b j)[j]? = some d := by
  have hj := (List.getElem?_eq_some_iff.1 h).1
  unfold mxT
  rw [List.getElem?_append_right (by rw [tgT_len (by omega)]; exact Nat.le_refl _), tgT_len (by omega), Nat.sub_self, List.getElem?_drop, Nat.add_zero]
  exact h
theorem mxT_set {D : List Dr} {a b j : Nat} {d : Dr} (h : D[j]? = some d) : (mxT D a b j).set j (tagD a b d) = mxT D a b (j + 1) := by
  have hj := (List.getElem?_eq_some_iff.1 h).1
  unfold mxT
  rw [List.set_append_right _ _ (by rw [tgT_len (by omega)]; exact Nat.le_refl _), tgT_len (by omega), Nat.sub_self, tgT_succ h, List.append_assoc]
  congr 1
  rw [List.drop_eq_getElem_cons hj, List.set_cons_zero]
  rfl
theorem mxT_zero (D : List Dr) (a b : Nat) : mxT D a b 0 = D := by
  unfold mxT tgT
  simp
theorem allQ_len (cf : Cfg) (rs : List Rc) (k : Nat) : (allQ cf rs k).length ≤ 128 * rs.length * k := by
  induction k with
  | zero => simp [allQ]
  | succ k ih =>
    rw [allQ_succ, List.length_append]
    have h1 := rowQ_len cf rs k (rs.length - (k + 1))
    have h3 : 128 * (rs.length - (k + 1)) ≤ 128 * rs.length := by omega
    rw [Nat.mul_succ]
    omega
theorem cas11 {P : (i : Nat) → i < 11 → Prop} (h0 : P 0 (by decide)) (h1 : P 1 (by decide)) (h2 : P 2 (by decide)) (h3 : P 3 (by decide)) (h4 : P 4 (by decide)) (h5 : P 5 (by decide)) (h6 : P 6 (by decide)) (h7 : P 7 (by decide)) (h8 : P 8 (by decide)) (h9 : P 9 (by decide)) (h10 : P 10 (by decide)) (i : Nat) (h : i < 11) : P i h := by
  by_cases e : i < 5
  · rcases (by omega : i = 0 ∨ i = 1 ∨ i = 2 ∨ i = 3 ∨ i = 4) with rfl | rfl | rfl | rfl | rfl <;> assumption
  · rcases (by omega : i = 5 ∨ i = 6 ∨ i = 7 ∨ i = 8 ∨ i = 9 ∨ i = 10) with rfl | rfl | rfl | rfl | rfl | rfl <;> assumption

set_option maxRecDepth 100000 in
set_option maxHeartbeats 16000000 in
theorem refall18_any (cf : Cfg) (a : Option Addr) (n c : Nat) (xs : List (RHd × Rc)) (w : World) (hx : SlRc w a n c xs) (hn : n ≤ 200) (hok : ∀ p ∈ xs, rcE cf p.2 = 0) :
    Calls Try.prog 78 #[cfgV cf, .slice a n c] w (AddPost w.heap.size (allQ cf (xs.map Prod.snd) n) w) := by
  have Hl := Lib.hid hx.sl.len
  have hmax := hx.sl.max
  have hle := hx.sl.le
  have HX0 := Lib.hid (fun W (hb' : Below w.heap.size w W) => hx.below hb' (Nat.le_refl _))
  have hlr : (xs.map Prod.snd).length = n := by rw [List.length_map, Hl.out]
  have BT : Hid (∀ (i k : Nat) (p q : RHd × Rc) (W : World), xs[i]? = some p → xs[k]? = some q → Below w.heap.size w W → Calls Try.prog 97 #[cfgV cf, rcV p.1 p.2, rcV q.1 q.2] W (AddPost W.heap.size (betw cf p.2 q.2) W)) := fun i k p q W hp hq hW =>
    refbetween18_any cf p.1 p.2 q.1 q.2 W ((hx.below hW (Nat.le_refl _)).one hp) ((hx.below hW (Nat.le_refl _)).one hq) (hok p (List.mem_of_getElem? hp)) (hok q (List.mem_of_getElem? hq))
  clear hx hok
  have HA := Lib.hid (allQ_succ cf (xs.map Prod.snd))
  have HR := Lib.hid (rowQ_succ cf (xs.map Prod.snd))
  have HP := Lib.hid (fun k b (p q : RHd × Rc) (hp : xs[k]? = some p) (hq : xs[b]? = some q) => pairD_at (cf := cf) (rs := xs.map Prod.snd) (a := k) (b := b) (p := p.2) (q := q.2) (by rw [List.getElem?_map, hp]; rfl) (by rw [List.getElem?_map, hq]; rfl))
  have HLA := Lib.hid (allQ_len cf (xs.map Prod.snd))
  have HLR := Lib.hid (rowQ_len cf (xs.map Prod.snd))
  have HLP := Lib.hid (betw_len cf)
  rw [hlr] at HA HLA
  generalize hAP : allQ cf (xs.map Prod.snd) = AP at HA HLA ⊢
  generalize hRP : rowQ cf (xs.map Prod.snd) = RP at HA HR HLR
  generalize hPD : pairD cf (xs.map Prod.snd) = PD at HR HP
  have HA0 : Hid (AP 0 = []) := by show _ = _; rw [← hAP]; rfl
  have HR0 : Hid (∀ b, RP b 0 = []) := fun b => by rw [← hRP]; rfl
  clear hAP hRP hPD hlr
  unfold AddPost
  have hB : Below w.heap.size w (w.alloc (cfO cf)) := (Below.refl _ _).alloc (Nat.le_refl _) _
  have hC := World.alloc_heap_new w (cfO cf)
  have hsz : (w.alloc (cfO cf)).heap.size = w.heap.size + 1 := by simp
  obtain ⟨W1, hW1⟩ : ∃ W, W = w.alloc (cfO cf) := ⟨_, rfl⟩
  rw [← hW1] at hB hC hsz
  have hsz' : w.heap.size + 1 ≤ W1.heap.size := by omega
  clear hsz
  have HC := Lib.hid hC
  clear hC
  dsimp only [cfO, cfgV] at hW1 ⊢
  go_enter Try.func78, Try.ntmps78
  go_upto_region 1 with fail
  rw [← hW1]
  clear hW1
  go_wp2
  go_loopw [5, 6] (fun v s wr => ∃ i : Nat, s = .int .i64 i ∧ i ≤ n ∧ (∃ X, Hid (X = AP i) ∧ DrAt (w.heap.size + 1) X v wr) ∧ Hid (wr.heap[w.heap.size]? = some (cfO cf)) ∧ Below w.heap.size w wr ∧ w.heap.size + 1 ≤ wr.heap.size) (fun _ s _ => n - (intOf s).toNat)
  case atStart => exact ⟨0, rfl, Nat.zero_le _, ⟨[], HA0.out.symm, ⟨none, 0, rfl, OwnR.nil _ _ _ _ _⟩⟩, HC.out, hB, hsz'⟩
  case round =>
    clear HC hB hsz'
    obtain ⟨i, rfl, hi, ⟨Xb, HXb, hown⟩, HC, hB3, hs3⟩ := hrel
    by_cases hin : i < n
    case neg =>
      obtain rfl : i = n := by omega
      have hinI : ¬ (i : Int) < (i : Int) := by omega
      obtain ⟨xa, xc, rfl, hown⟩ := hown
      go_wp2
      go_ret
      refine ⟨_, rfl, ?_, hB3⟩
      rw [← HXb.out]
      exact hown.mono (by omega)
    have hinI : (i : Int) < (n : Int) := by omega
    have wi1 : IntKind.i64.wrap ((i : Int) + 1) = ((i + 1 : Nat) : Int) := by rw [IntKind.wrap_i64]; omega
    obtain ⟨xa, xc, rfl, hown⟩ := hown
    go_upto_region 6 with fail
    go_wp2
    go_loopw [5, 7] (fun v s wr => ∃ j : Nat, s = .int .i64 ((i + 1 + j : Nat) : Int) ∧ i + 1 + j ≤ n ∧ (∃ X, Hid (X = AP i ++ RP i j) ∧ DrAt (w.heap.size + 1) X v wr) ∧ Hid (wr.heap[w.heap.size]? = some (cfO cf)) ∧ Below w.heap.size w wr ∧ w.heap.size + 1 ≤ wr.heap.size) (fun _ s _ => n - (intOf s).toNat)
    case atStart => exact ⟨0, by go_num, by omega, ⟨Xb, (show _ = _ by rw [HR0.out, List.append_nil]; exact HXb.out), ⟨xa, xc, rfl, hown⟩⟩, HC.out, hB3, hs3⟩
    case round =>
      clear HC hB3 hs3 hown
      obtain ⟨j, rfl, hj, ⟨X, HX, hown⟩, HC, hB4, hs4⟩ := hrel
      have hLa := HLA.out i
      have hLa2 : 128 * n * i ≤ 128 * n * 200 := Nat.mul_le_mul_left _ (by omega)
      have hLr := HLR.out i j
      have hXl : X.length ≤ 6000000 := by rw [HX.out, List.length_append]; omega
      clear hLa hLa2 hLr
      by_cases hjn : i + 1 + j < n
      case neg =>
        have hj2 : j = n - (i + 1) := by omega
        have hkn : i + 1 + j = n := by omega
        have hjnI : ¬ ((i + 1 + j : Nat) : Int) < (n : Int) := by omega
        have hAP := HA.out i
        rw [← hj2] at hAP
        obtain ⟨xa2, xc2, rfl, hown⟩ := hown
        go_wp2
        go_roundw
        case rel => exact ⟨i + 1, by go_num, by omega, ⟨X, (show _ = _ by rw [hAP]; exact HX.out), ⟨_, _, rfl, hown⟩⟩, HC.out, hB4, hs4⟩
        case measure => simp [intOf]; omega
      obtain ⟨kk, hkk⟩ : ∃ kk, kk = i + 1 + j := ⟨_, rfl⟩
      rw [← hkk] at hjn ⊢
      have hknI : (kk : Int) < (n : Int) := by omega
      have wk1 : IntKind.i64.wrap ((kk : Int) + 1) = ((kk + 1 : Nat) : Int) := by rw [IntKind.wrap_i64]; omega
      obtain ⟨⟨ha, ra⟩, hxi⟩ : ∃ x, xs[i]? = some x := ⟨_, List.getElem?_eq_getElem (by rw [Hl.out]; omega)⟩
      obtain ⟨⟨hb, rb⟩, hxk⟩ : ∃ x, xs[kk]? = some x := ⟨_, List.getElem?_eq_getElem (by rw [Hl.out]; omega)⟩
      have HPk := HP.out i kk (ha, ra) (hb, rb) hxi hxk
      have HRj := HR.out i j
      rw [← hkk, HPk] at HRj
      have HRP := Lib.hid HRj
      have hLD := HLP.out ra rb
      have BTk : Hid (∀ W, Below wr.heap.size wr W → Calls Try.prog 97 #[cfgV cf, rcV ha ra, rcV hb rb] W (AddPost W.heap.size (betw cf ra rb) W)) := fun W hW => BT.out i kk (ha, ra) (hb, rb) W hxi hxk (hB4.trans (hW.mono hB4.size))
      have HXW : Hid (∀ W, Below wr.heap.size wr W → SlRc W a n c xs) := fun W hbW => HX0.out W (hB4.trans (hbW.mono hB4.size))
      clear HPk HRj
      have Hkk := Lib.hid hkk
      clear hkk
      obtain ⟨G, off, rfl, _, _⟩ := (HX0.out _ hB4).sl.at0 (by omega)
      obtain ⟨xa2, xc2, rfl, hown⟩ := hown
      go_upto_region 8 with fail
      dsimp only [cfgV, rcV] at BTk
      generalize betw cf ra rb = D at BTk HRP hLD
      refine wp_region_det ([none, none, none, none, none, none, none, none, some 10, none, none, none, none, none, none, none, none, none, none, none, none, none, none, none, some 0, some 1, some 2, some 3, some 4, some 5, some 6, some 7, some 8, some 9, none, none, none, none, none, none, none, none, none, none, none, none, none, none, none, none, none, none, none, none, none, none, none, none]) [fun v _ => v = .agg #[.int .i64 cf.clear, .int .i64 cf.climb, .int .i64 cf.height, .int .i64 cf.rise, .int .i64 cf.run, .int .i64 cf.w, .int .i64 cf.d],
            fun v _ => v = .slice (some ⟨G, off, none⟩) n c,
            fun v _ => v = .int .i64 (i : Nat),
            fun v _ => v = .pointer (some ⟨G, off + i * 7, none⟩),
            fun v _ => v = .agg #[.int .i64 ra.x0, .int .i64 ra.z0, .int .i64 ra.x1, .int .i64 ra.z1, .int .i64 ra.area, .slice ha.ya ra.ys.length ha.yc, .slice ha.ta ra.ts.length ha.tc],
            fun v _ => v = .slice (some ⟨G, off, none⟩) n c,
            fun v _ => v = .int .i64 (kk : Nat),
            fun v _ => v = .pointer (some ⟨G, off + kk * 7, none⟩),
            fun v _ => v = .agg #[.int .i64 rb.x0, .int .i64 rb.z0, .int .i64 rb.x1, .int .i64 rb.z1, .int .i64 rb.area, .slice hb.ya rb.ys.length hb.yc, .slice hb.ta rb.ts.length hb.tc],
            fun v w => OwnR drC 6 96 wr.heap.size w v D.length D,
            fun v w => OwnR drC 6 96 wr.heap.size w v D.length D] (by kernel_rfl) (by kernel_rfl) (by kernel_rfl) (by kernel_rfl) ?_ ?_ ?_
      · refine List.forall_mem_cons.2 ⟨fun _ _ _ h _ => h, List.forall_mem_cons.2 ⟨fun _ _ _ h _ => h, List.forall_mem_cons.2 ⟨fun _ _ _ h _ => h, List.forall_mem_cons.2 ⟨fun _ _ _ h _ => h, List.forall_mem_cons.2 ⟨fun _ _ _ h _ => h, List.forall_mem_cons.2 ⟨fun _ _ _ h _ => h, List.forall_mem_cons.2 ⟨fun _ _ _ h _ => h, List.forall_mem_cons.2 ⟨fun _ _ _ h _ => h, List.forall_mem_cons.2 ⟨fun _ _ _ h _ => h, List.forall_mem_cons.2 ⟨fun v w w2 h hb => OwnR.below h hb (Nat.le_refl _), List.forall_mem_cons.2 ⟨fun v w w2 h hb => OwnR.below h hb (Nat.le_refl _), List.forall_mem_nil _⟩⟩⟩⟩⟩⟩⟩⟩⟩⟩⟩
      · intro Q' K t vals wi hoff hon hB i hlt
        have hlt : i < 11 := hlt
        cases i, hlt using cas11
        · intro hS hK
          have g2 : t[(2 : Nat)]? = some (.pointer (some ⟨w.heap.size, 0, none⟩)) := hoff 2 _ rfl rfl
          have hC := hkeep hB HC.out
          have c0 := hcell (k := 0) (v := .int .i64 cf.clear) hC rfl
          have c1 := hcell (k := 1) (v := .int .i64 cf.climb) hC rfl
          have c2 := hcell (k := 2) (v := .int .i64 cf.height) hC rfl
          have c3 := hcell (k := 3) (v := .int .i64 cf.rise) hC rfl
          have c4 := hcell (k := 4) (v := .int .i64 cf.run) hC rfl
          have c5 := hcell (k := 5) (v := .int .i64 cf.w) hC rfl
          have c6 := hcell (k := 6) (v := .int .i64 cf.d) hC rfl
          clear hC
          clear hoff hon hS
          refine wpOp_of rfl rfl ?_
          go_simp
          exact hK.out _ _ rfl (Below.refl _ _)
        · intro hS hK
          have g1 : t[(1 : Nat)]? = some (.slice (some ⟨G, off, none⟩) n c) := hoff 1 _ rfl rfl
          clear hoff hon hS
          refine wpOp_of rfl rfl ?_
          go_simp
          exact hK.out _ _ rfl (Below.refl _ _)
        · intro hS hK
          have g6 : t[(6 : Nat)]? = some (.int .i64 (i : Nat)) := hoff 6 _ rfl rfl
          clear hoff hon hS
          refine wpOp_of rfl rfl ?_
          go_simp
          exact hK.out _ _ rfl (Below.refl _ _)
        · intro hS hK
          have g25 : t[(25 : Nat)]? = some (.slice (some ⟨G, off, none⟩) n c) := (hon 1 25 rfl).trans (congrArg some (hS 1 (by kernel_rfl)))
          have g26 : t[(26 : Nat)]? = some (.int .i64 (i : Nat)) := (hon 2 26 rfl).trans (congrArg some (hS 2 (by kernel_rfl)))
          clear hoff hon hS
          refine wpOp_of rfl rfl ?_
          go_simp
          exact hK.out _ _ rfl (Below.refl _ _)
        · intro hS hK
          have g27 : t[(27 : Nat)]? = some (.pointer (some ⟨G, off + i * 7, none⟩)) := (hon 3 27 rfl).trans (congrArg some (hS 3 (by kernel_rfl)))
          have hw := HXW.out wi hB
          have r0 := hw.at hxi 0 _ rfl
          have r1 := hw.at hxi 1 _ rfl
          have r2 := hw.at hxi 2 _ rfl
          have r3 := hw.at hxi 3 _ rfl
          have r4 := hw.at hxi 4 _ rfl
          have r5 := hw.at hxi 5 _ rfl
          have r6 := hw.at hxi 6 _ rfl
          simp only [Nat.add_zero] at r0
          clear hw
          clear hoff hon hS
          refine wpOp_of rfl rfl ?_
          go_simp
          exact hK.out _ _ rfl (Below.refl _ _)
        · intro hS hK
          have g1 : t[(1 : Nat)]? = some (.slice (some ⟨G, off, none⟩) n c) := hoff 1 _ rfl rfl
          clear hoff hon hS
          refine wpOp_of rfl rfl ?_
          go_simp
          exact hK.out _ _ rfl (Below.refl _ _)
        · intro hS hK
          have g7 : t[(7 : Nat)]? = some (.int .i64 (kk : Nat)) := hoff 7 _ rfl rfl
          clear hoff hon hS
          refine wpOp_of rfl rfl ?_
          go_simp
          exact hK.out _ _ rfl (Below.refl _ _)
        · intro hS hK
          have g29 : t[(29 : Nat)]? = some (.slice (some ⟨G, off, none⟩) n c) := (hon 5 29 rfl).trans (congrArg some (hS 5 (by kernel_rfl)))
          have g30 : t[(30 : Nat)]? = some (.int .i64 (kk : Nat)) := (hon 6 30 rfl).trans (congrArg some (hS 6 (by kernel_rfl)))
          clear hoff hon hS
          refine wpOp_of rfl rfl ?_
          go_simp
          exact hK.out _ _ rfl (Below.refl _ _)
        · intro hS hK
          have g31 : t[(31 : Nat)]? = some (.pointer (some ⟨G, off + kk * 7, none⟩)) := (hon 7 31 rfl).trans (congrArg some (hS 7 (by kernel_rfl)))
          have hw := HXW.out wi hB
          have r0 := hw.at hxk 0 _ rfl
          have r1 := hw.at hxk 1 _ rfl
          have r2 := hw.at hxk 2 _ rfl
          have r3 := hw.at hxk 3 _ rfl
          have r4 := hw.at hxk 4 _ rfl
          have r5 := hw.at hxk 5 _ rfl
          have r6 := hw.at hxk 6 _ rfl
          simp only [Nat.add_zero] at r0
          clear hw
          clear hoff hon hS
          refine wpOp_of rfl rfl ?_
          go_simp
          exact hK.out _ _ rfl (Below.refl _ _)
        · intro hS hK
          have g24 : t[(24 : Nat)]? = some (.agg #[.int .i64 cf.clear, .int .i64 cf.climb, .int .i64 cf.height, .int .i64 cf.rise, .int .i64 cf.run, .int .i64 cf.w, .int .i64 cf.d]) := (hon 0 24 rfl).trans (congrArg some (hS 0 (by kernel_rfl)))
          have g28 : t[(28 : Nat)]? = some (.agg #[.int .i64 ra.x0, .int .i64 ra.z0, .int .i64 ra.x1, .int .i64 ra.z1, .int .i64 ra.area, .slice ha.ya ra.ys.length ha.yc, .slice ha.ta ra.ts.length ha.tc]) := (hon 4 28 rfl).trans (congrArg some (hS 4 (by kernel_rfl)))
          have g32 : t[(32 : Nat)]? = some (.agg #[.int .i64 rb.x0, .int .i64 rb.z0, .int .i64 rb.x1, .int .i64 rb.z1, .int .i64 rb.area, .slice hb.ya rb.ys.length hb.yc, .slice hb.ta rb.ts.length hb.tc]) := (hon 8 32 rfl).trans (congrArg some (hS 8 (by kernel_rfl)))
          clear hoff hon hS
          refine wpOp_of rfl rfl ?_
          go_simp
          go_at_call 97
          refine (BTk.out wi hB).mono ?_
          rintro e wz ⟨s', rfl, ho, hbz⟩
          (try go_simp)
          exact hK.out _ _ (OwnR.mono ho hB.size) hbz
        · intro hS hK
          have g33 : t[(33 : Nat)]? = some (vals 9) := hon 9 33 rfl
          have p33 : (fun v w => OwnR drC 6 96 wr.heap.size w v D.length D) (vals 9) wi := hS 9 (by kernel_rfl)
          dsimp only at p33
          clear hoff hon hS
          refine wpOp_of rfl rfl ?_
          go_simp
          exact hK.out _ _ p33 (Below.refl _ _)
      · intro vals wi hB hS
        have e0 : vals 0 = .agg #[.int .i64 cf.clear, .int .i64 cf.climb, .int .i64 cf.height, .int .i64 cf.rise, .int .i64 cf.run, .int .i64 cf.w, .int .i64 cf.d] := hS 0 (by decide)
        have e1 : vals 1 = .slice (some ⟨G, off, none⟩) n c := hS 1 (by decide)
        have e2 : vals 2 = .int .i64 (i : Nat) := hS 2 (by decide)
        have e3 : vals 3 = .pointer (some ⟨G, off + i * 7, none⟩) := hS 3 (by decide)
        have e4 : vals 4 = .agg #[.int .i64 ra.x0, .int .i64 ra.z0, .int .i64 ra.x1, .int .i64 ra.z1, .int .i64 ra.area, .slice ha.ya ra.ys.length ha.yc, .slice ha.ta ra.ts.length ha.tc] := hS 4 (by decide)
        have e5 : vals 5 = .slice (some ⟨G, off, none⟩) n c := hS 5 (by decide)
        have e6 : vals 6 = .int .i64 (kk : Nat) := hS 6 (by decide)
        have e7 : vals 7 = .pointer (some ⟨G, off + kk * 7, none⟩) := hS 7 (by decide)
        have e8 : vals 8 = .agg #[.int .i64 rb.x0, .int .i64 rb.z0, .int .i64 rb.x1, .int .i64 rb.z1, .int .i64 rb.area, .slice hb.ya rb.ys.length hb.yc, .slice hb.ta rb.ts.length hb.tc] := hS 8 (by decide)
        have p9 : (fun v w => OwnR drC 6 96 wr.heap.size w v D.length D) (vals 9) wi := hS 9 (by decide)
        dsimp only at p9
        have p10 : (fun v w => OwnR drC 6 96 wr.heap.size w v D.length D) (vals 10) wi := hS 10 (by decide)
        dsimp only at p10
        clear hS
        dsimp only [over]
        obtain ⟨da, dc, e8, hSlD⟩ := OwnR.reads drC_len p10
        rw [e8] at p10
        rw [e8]
        have hDle := p10.le
        have hB5 := hB4.trans (hB.mono hB4.size)
        have hs5 : w.heap.size + 1 ≤ wi.heap.size := Nat.le_trans hs4 hB.size
        have HC5 := Lib.hid (hkeep hB HC.out)
        have hown5 := hown.below hB (Nat.le_refl _)
        have hap : ∀ q, (Value.slice da D.length dc).ownBlock = some q → (Value.slice xa2 X.length xc2).ownBlock ≠ some q := fun q e1 e2 => by have := hDle q e1; have := (hown.lt q e2).2; omega
        have hDw : ∀ q, (Value.slice da D.length dc).ownBlock = some q → w.heap.size + 1 ≤ q := fun q e1 => Nat.le_trans hs4 (hDle q e1)
        have HDW := Lib.hid hDw
        have hM : OwnR drC 6 96 wr.heap.size wi (.slice da D.length dc) D.length (mxT D i kk 0) := by rw [mxT_zero]; exact p10
        clear e0 e1 e2 e3 e4 e5 e6 e7 e8 p9 p10 hB hB4 hs4 HC hown BTk HXW hDw hDle hSlD
        generalize wr.heap.size = H2 at hM
        clear hxi hxk
        go_wp2
        go_loopw [5, 9] (fun v s wr => ∃ m : Nat, s = .int .i64 (m : Nat) ∧ m ≤ D.length ∧ (∃ Y, Hid (Y = X ++ tgT D i kk m) ∧ DrAt (w.heap.size + 1) Y v wr) ∧ (∀ q, (Value.slice da D.length dc).ownBlock = some q → v.ownBlock ≠ some q) ∧ OwnR drC 6 96 H2 wr (.slice da D.length dc) D.length (mxT D i kk m) ∧ Hid (wr.heap[w.heap.size]? = some (cfO cf)) ∧ Below w.heap.size w wr ∧ w.heap.size + 1 ≤ wr.heap.size) (fun _ s _ => D.length - (intOf s).toNat)
        case atStart => exact ⟨0, rfl, Nat.zero_le _, ⟨X, (show _ = _ by unfold tgT; rw [List.take_zero, List.map_nil, List.append_nil]), ⟨_, _, rfl, hown5⟩⟩, hap, hM, HC5.out, hB5, hs5⟩
        case round =>
          clear hM HC5 hB5 hs5 hown5 hap
          obtain ⟨m, rfl, hm, ⟨Y, HY, ⟨ya, yc, rfl, hown⟩⟩, hap, hM, HC, hB6, hs6⟩ := hrel
          have hYl : Y.length ≤ 7000000 := by rw [HY.out, List.length_append, tgT_len hm]; omega
          by_cases hmD : m < D.length
          case neg =>
            obtain rfl : m = D.length := by omega
            have hmDI : ¬ (D.length : Int) < (D.length : Int) := by omega
            have HY2 : Hid (Y = AP i ++ RP i (j + 1)) := by
              show _ = _
              have e : tgT D i kk D.length = D.map (tagD i kk) := by unfold tgT; rw [List.take_length]
              rw [HRP.out, ← List.append_assoc, ← HX.out, HY.out, e]
            have hk2 := Hkk.out
            have hfin : ((kk + 1 : Nat) : Int) = ((i + 1 + (j + 1) : Nat) : Int) := by omega
            have hms : n - (kk + 1) < n - kk := by omega
            have Hf := Lib.hid hfin
            have hj1 : i + 1 + (j + 1) ≤ n := by omega
            clear hk2 hfin
            go_wp2
            go_roundw
            case rel => exact ⟨j + 1, congrArg (Value.int .i64) (by have := Hf.out; omega), hj1, ⟨Y, HY2, ⟨_, _, rfl, hown⟩⟩, HC.out, hB6, hs6⟩
            case measure => simp [intOf]; omega
          have hmDI : (m : Int) < (D.length : Int) := by omega
          have wm1 : IntKind.i64.wrap ((m : Int) + 1) = ((m + 1 : Nat) : Int) := by rw [IntKind.wrap_i64]; omega
          obtain ⟨d, hdm⟩ : ∃ d, D[m]? = some d := ⟨_, List.getElem?_eq_getElem hmD⟩
          have HT := Lib.hid (tgT_succ (a := i) (b := kk) hdm)
          have HMS := Lib.hid (mxT_set (a := i) (b := kk) hdm)
          have hat := mxT_at (a := i) (b := kk) hdm
          have hml := mxT_len (D := D) (a := i) (b := kk) hm
          generalize mxT D i kk m = M at hM HMS hat hml
          clear hdm
          obtain ⟨d0, d1, dx0, dz0, dx1, dz1⟩ := d
          dsimp only [tagD] at HT HMS
          obtain ⟨g, gc, ev, hg1, hg2⟩ := dr_block hM (by omega)
          have HDWg := HDW.out
          rw [ev] at HDWg hap hM
          simp only [Value.slice.injEq] at ev
          obtain ⟨rfl, _, rfl⟩ := ev
          have hgS : w.heap.size + 1 ≤ g := HDWg g rfl
          have hgY := hap g rfl
          clear HDWg
          have q0 := OwnR.cellAt drC_len hM (j := 0) hat rfl
          have f0 := OwnR.frozen hM (m * 6 + 0)
          have hM1 := OwnR.setAt drC_len hM (j := 0) (u := .int .i64 (i : Nat)) (y := ⟨(i : Nat), d1, dx0, dz0, dx1, dz1⟩) hat (by decide) rfl
          have hY1 := hown.kept (grown_set wr g (m * 6 + 0) (.int .i64 (i : Nat))) (.inr hgY)
          have hB61 := hB6.setCell (p := ⟨g, m * 6 + 0, none⟩) (show w.heap.size ≤ g by omega) (.int .i64 (i : Nat))
          have HC1 := Lib.hid (hgrown (grown_set wr g (m * 6 + 0) (.int .i64 (i : Nat))) HC.out (by simp only [ne_eq, Option.some.injEq]; omega))
          have hs61 : w.heap.size + 1 ≤ (wr.setCell ⟨g, m * 6 + 0, none⟩ (.int .i64 (i : Nat))).heap.size := by simpa using hs6
          simp only [Nat.add_zero] at q0 f0 hM1 hY1 hB61 HC1 hs61
          go_upto_region 13 with fail
          obtain ⟨V1, hV1⟩ : ∃ W, W = wr.setCell ⟨g, m * 6, none⟩ (.int .i64 (i : Nat)) := ⟨_, rfl⟩
          rw [← hV1] at hM1 hY1 hB61 HC1 hs61 ⊢
          clear hV1 q0 f0 hM hown hB6 HC hs6
          have hat1 : (M.set m ⟨(i : Nat), d1, dx0, dz0, dx1, dz1⟩)[m]? = some (⟨(i : Nat), d1, dx0, dz0, dx1, dz1⟩ : Dr) := List.getElem?_set_self (by omega)
          have q1 := OwnR.cellAt drC_len hM1 (j := 1) hat1 rfl
          have f1 := OwnR.frozen hM1 (m * 6 + 1)
          have hM2 := OwnR.setAt drC_len hM1 (j := 1) (u := .int .i64 (kk : Nat)) (y := ⟨(i : Nat), (kk : Nat), dx0, dz0, dx1, dz1⟩) hat1 (by decide) rfl
          rw [List.set_set, HMS.out] at hM2
          have hY2 := hY1.kept (grown_set V1 g (m * 6 + 1) (.int .i64 (kk : Nat))) (.inr hgY)
          have hB62 := hB61.setCell (p := ⟨g, m * 6 + 1, none⟩) (show w.heap.size ≤ g by omega) (.int .i64 (kk : Nat))
          have HC2 := Lib.hid (hgrown (grown_set V1 g (m * 6 + 1) (.int .i64 (kk : Nat))) HC1.out (by simp only [ne_eq, Option.some.injEq]; omega))
          have hs62 : w.heap.size + 1 ≤ (V1.setCell ⟨g, m * 6 + 1, none⟩ (.int .i64 (kk : Nat))).heap.size := by simpa using hs61
          have hat2 : (M.set m ⟨(i : Nat), (kk : Nat), dx0, dz0, dx1, dz1⟩)[m]? = some (⟨(i : Nat), (kk : Nat), dx0, dz0, dx1, dz1⟩ : Dr) := List.getElem?_set_self (by omega)
          rw [HMS.out] at hat2
          go_upto_region 14 with fail
          obtain ⟨V2, hV2⟩ : ∃ W, W = V1.setCell ⟨g, m * 6 + 1, none⟩ (.int .i64 (kk : Nat)) := ⟨_, rfl⟩
          rw [← hV2] at hM2 hY2 hB62 HC2 hs62 ⊢
          clear hV2 q1 f1 hM1 hY1 hB61 HC1 hs61 hat1 HMS hat
          have z0 := OwnR.cellAt drC_len hM2 (j := 0) hat2 rfl
          have z1 := OwnR.cellAt drC_len hM2 (j := 1) hat2 rfl
          have z2 := OwnR.cellAt drC_len hM2 (j := 2) hat2 rfl
          have z3 := OwnR.cellAt drC_len hM2 (j := 3) hat2 rfl
          have z4 := OwnR.cellAt drC_len hM2 (j := 4) hat2 rfl
          have z5 := OwnR.cellAt drC_len hM2 (j := 5) hat2 rfl
          simp only [Nat.add_zero] at z0
          go_wp2_with (at_builtin; refine wpList_appR (f := drC) (sz := 6) (e := 96) (B := w.heap.size + 1) (n := Y.length) (xs := Y) _ drC_len drC_one rfl _ _ 25 rfl (.agg #[.int .i64 0, .int .i64 0, .int .i64 0, .int .i64 0, .int .i64 0, .int .i64 0]) 48 Try.underlying25 info_dr rfl (by decide) ⟨(i : Nat), (kk : Nat), dx0, dz0, dx1, dz1⟩ 96 hY2 rfl rfl (by omega) (by omega) (by omega) ?_; intro v' w' hown' happ)
          clear z0 z1 z2 z3 z4 z5
          have hne := hY2.le
          have HC3 := Lib.hid (hgrown happ.grown HC2.out (fun e => by have := hne _ e; omega))
          have hM3 := hM2.kept happ.grown (.inr (fun e => hgY e.symm))
          have hB63 := hB62.trans (happ.below (B := w.heap.size) hB62.size (fun q hq => by have := hne q hq; omega))
          have hs63 : w.heap.size + 1 ≤ w'.heap.size := Nat.le_trans hs62 happ.grown.size
          have hgV : g < V2.heap.size := (hM2.lt g rfl).2
          have hap3 : ∀ q, (Value.slice (some ⟨g, 0, none⟩) D.length dc).ownBlock = some q → v'.ownBlock ≠ some q := fun q e1 e2 => by
            have e3 : g = q := Option.some.inj e1
            subst e3
            rcases happ.own with h | h
            · rw [h] at e2; exact hgY e2
            · have := h _ e2; omega
          have HY3 : Hid (Y ++ [⟨(i : Nat), (kk : Nat), dx0, dz0, dx1, dz1⟩] = X ++ tgT D i kk (m + 1)) := by show _ = _; rw [HT.out, ← List.append_assoc, ← HY.out]
          clear happ hY2 hM2 hB62 HC2 hs62 hap hne
          have hAt := DrAt.mk (own_len' hown') (Nat.le_refl _)
          obtain ⟨va, vc, rfl, hown''⟩ := hAt
          clear hown'
          go_wp2
          go_roundw
          case rel => exact ⟨m + 1, by go_num, by omega, ⟨_, HY3, ⟨_, _, rfl, hown''⟩⟩, hap3, hM3, HC3.out, hB63, hs63⟩
          case measure => simp [intOf]; omega
      
end Go.Proofs.Ytgfmdgiepomkiaa
