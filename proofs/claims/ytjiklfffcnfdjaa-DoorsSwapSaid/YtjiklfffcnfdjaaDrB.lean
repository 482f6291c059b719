/- Walk: doors.Build at two rectangles that may be, with no door between. -/
import Derived.Test.YtjiklfffcnfdjaaDrC
import Derived.Test.YtjiklfffcnfdjaaDrA
import Derived.Test.YtjiklfffcnfdjaaDrO
import Derived.Test.YtjiklfffcnfdjaaBtw
import Derived.Test.YtjiklfffcnfdjaaSmD
namespace Go.Proofs.Ytjiklfffcnfdjaa
open Go.RowKit Go.Sort

def BldInv (T G : Nat) (cf : Cfg) (ha : RHd) (ra : Rc) (hb : RHd) (rb : Rc) (ds : List Dr) (H : Nat) (w1 : World) (F : Value → Value → Value → Value → Value → Value → Value → Value → Value → Value → Value → Value → Array Value) (D : List Deferred) (L : Array Bool) (a : Act) (w : World) : Prop :=
  ∃ (s0 s1 s2 s3 s4 s5 s6 s7 s8 s9 s10 s11 : Value), a = { tmps := F s0 s1 s2 s3 s4 s5 s6 s7 s8 s9 s10 s11, defers := D } ∧
    Below H w1 w ∧
    w.heap[T]? = some (cfO cf) ∧
    w.heap[G]? = some (.cells (rcL ha ra ++ rcL hb rb).toArray 26 (0, 0)) ∧
    (L.getD 0 false = true → s0 = .agg #[.int .i64 cf.clear, .int .i64 cf.climb, .int .i64 cf.height, .int .i64 cf.rise, .int .i64 cf.run, .int .i64 cf.w, .int .i64 cf.d]) ∧
    (L.getD 1 false = true → s1 = .slice (some ⟨G, 0, none⟩) 2 2) ∧
    (L.getD 2 false = true → s2 = .int .i64 0) ∧
    (L.getD 3 false = true → s3 = .pointer (some ⟨G, 0, none⟩)) ∧
    (L.getD 4 false = true → s4 = rcV ha ra) ∧
    (L.getD 5 false = true → s5 = .slice (some ⟨G, 0, none⟩) 2 2) ∧
    (L.getD 6 false = true → s6 = .int .i64 1) ∧
    (L.getD 7 false = true → s7 = .pointer (some ⟨G, 7, none⟩)) ∧
    (L.getD 8 false = true → s8 = rcV hb rb) ∧
    (L.getD 9 false = true → DrAt w1.heap.size ds s9 w) ∧
    (L.getD 10 false = true → s10 = .int .i64 (ds.length : Nat)) ∧
    (L.getD 11 false = true → s11 = .int .i64 0)
def BldPost (D : List Dr) (w : World) (e : Ending) (w' : World) : Prop := ∃ v, e = .returned (.tuple #[v, .int .i64 0]) ∧ OwnR drC 6 35 w.heap.size w' v D.length D ∧ Below w.heap.size w w'
def dr01 (d : Dr) : Dr := ⟨0, 1, d.x0, d.z0, d.x1, d.z1⟩
set_option maxHeartbeats 2000000 in
theorem build2_any (cf : Cfg) (G : Nat) (ha : RHd) (ra : Rc) (hb : RHd) (rb : Rc) (w : World) (hG : w.heap[G]? = some (.cells (rcL ha ra ++ rcL hb rb).toArray 26 (0, 0))) (hs : RcSl w ha ra) (ht : RcSl w hb rb)
    (h0 : cfgE cf = 0) (h1 : rcE cf ra = 0) (h2 : rcE cf rb = 0) (ds : List Dr) (hD : betw cf ra rb = ds) (hD0 : ds = [] ∨ ∃ d, ds = [d]) :
    Calls Try.prog 42 #[cfgV cf, .slice (some ⟨G, 0, none⟩) 2 2] w (BldPost (ds.map dr01) w) := by
  unfold BldPost
  have CF := Lib.hid (fun W => cfgcheck_any cf W)
  rw [h0] at CF
  have CC := Lib.hid (fun T W hT hG hs ht => contrct2_any cf T G ha ra hb rb W hT hG hs ht)
  rw [h1, h2] at CC
  have CB := Lib.hid (fun W hs ht => betw_any cf ha ra hb rb W hs ht)
  unfold BtwPost at CB
  rw [hD] at CB
  clear h0 h1 h2 hD
  have HD0 := Lib.hid hD0
  clear hD0
  have hB : Below w.heap.size w (w.alloc (cfO cf)) := (Below.refl _ _).alloc (Nat.le_refl _) _
  have HSa := Lib.hid (fun W (hb' : Below w.heap.size w W) => hs.below hb' (Nat.le_refl _))
  have HSb := Lib.hid (fun W (hb' : Below w.heap.size w W) => ht.below hb' (Nat.le_refl _))
  clear hs ht
  have hC := World.alloc_heap_new w (cfO cf)
  have hG1 := halloc hG (cfO cf)
  obtain ⟨W1, hW1⟩ : ∃ W, W = w.alloc (cfO cf) := ⟨_, rfl⟩
  rw [← hW1] at hB hC hG1
  have HC := Lib.hid hC
  have HG := Lib.hid hG1
  clear hG hG1
  dsimp only [cfO, cfgV] at hC hW1 CF CB ⊢
  have c0 := hcell (k := 0) (v := .int .i64 cf.clear) hC rfl
  have c1 := hcell (k := 1) (v := .int .i64 cf.climb) hC rfl
  have c2 := hcell (k := 2) (v := .int .i64 cf.height) hC rfl
  have c3 := hcell (k := 3) (v := .int .i64 cf.rise) hC rfl
  have c4 := hcell (k := 4) (v := .int .i64 cf.run) hC rfl
  have c5 := hcell (k := 5) (v := .int .i64 cf.w) hC rfl
  have c6 := hcell (k := 6) (v := .int .i64 cf.d) hC rfl
  clear hC
  go_enter Try.func42, Try.ntmps42
  go_upto_region 1 with fail
  rw [← hW1]
  clear hW1
  go_wp2_with fail
  refine (CF.out _).mono ?_
  rintro e w1 ⟨rfl, hb1⟩
  clear c0 c1 c2 c3 c4 c5 c6
  have hC1 := hkeep hb1 HC.out
  have hG1 := hkeep hb1 HG.out
  have hB1 := hB.trans (hb1.mono hB.size)
  have HC1 := Lib.hid hC1
  have HG1 := Lib.hid hG1
  clear hC1 hG1 HC HG
  go_wp2_with fail
  refine (CC.out _ _ HC1.out HG1.out (HSa.out _ hB1) (HSb.out _ hB1)).mono ?_
  rintro e w2 ⟨rfl, hb2⟩
  have hC2 := hkeep hb2 HC1.out
  have hG2 := hkeep hb2 HG1.out
  have hB2 := hB1.trans (hb2.mono hB1.size)
  have HC2 := Lib.hid hC2
  have HG2 := Lib.hid hG2
  clear HC1 HG1 hC2 hG2
  go_wp2
  refine wp_loop_rounds 3 ?_
  rw [rounds_succ]
  go_wp2
  refine wp_loop_rounds 1 ?_
  rw [rounds_succ]
  go_wp2
  rw [rounds_succ]
  go_wp2
  refine wp_loop_rounds 2 ?_
  rw [rounds_succ]
  go_wp2
  refine wp_region_inv (BldInv w.heap.size G cf ha ra hb rb ds w.heap.size w2 (fun s0 s1 s2 s3 s4 s5 s6 s7 s8 s9 s10 s11 => #[Value.agg #[Value.int IntKind.i64 cf.clear, Value.int IntKind.i64 cf.climb, Value.int IntKind.i64 cf.height, Value.int IntKind.i64 cf.rise, Value.int IntKind.i64 cf.run, Value.int IntKind.i64 cf.w, Value.int IntKind.i64 cf.d], Value.slice (some { block := G, off := 0 }) 2 2, Value.pointer (some { block := w.heap.size, off := 0 }), undef, Value.slice none 0 0, Value.int IntKind.i64 0, Value.int IntKind.i64 0, Value.int IntKind.i64 1, Value.int IntKind.i64 0, undef, undef, Value.agg #[Value.int IntKind.i64 cf.clear, Value.int IntKind.i64 cf.climb, Value.int IntKind.i64 cf.height, Value.int IntKind.i64 cf.rise, Value.int IntKind.i64 cf.run, Value.int IntKind.i64 cf.w, Value.int IntKind.i64 cf.d], Value.int IntKind.i64 0, Value.int IntKind.i64 0, Value.bool false, undef, Value.slice (some { block := G, off := 0 }) 2 2, Value.func (Fn.func 98) #[] #[Value.pointer (some { block := w.heap.size, off := 0 })], Value.bool false, Value.slice (some { block := G, off := 0 }) 2 2, Value.int IntKind.i64 2, Value.int IntKind.i64 1, Value.bool true, Value.int IntKind.i64 1, Value.int IntKind.i64 1, Value.int IntKind.i64 0, Value.bool true, Value.int IntKind.i64 0, s0, s1, s2, s3, s4, s5, s6, s7, s8, s9, s10, s11, undef, undef, undef, undef, undef, undef, undef, undef, undef, undef, undef, undef, undef, Value.int IntKind.i64 1, undef, undef, undef, undef, undef, undef]) []) (by kernel_rfl) (by kernel_rfl) ?_ ?_ ?_
  · unfold BldInv
    refine ⟨_, _, _, _, _, _, _, _, _, _, _, _, rfl, (Below.refl _ _).drew, HC2.out, HG2.out, (fun h => by cases (show false = true from h)), (fun h => by cases (show false = true from h)), (fun h => by cases (show false = true from h)), (fun h => by cases (show false = true from h)), (fun h => by cases (show false = true from h)), (fun h => by cases (show false = true from h)), (fun h => by cases (show false = true from h)), (fun h => by cases (show false = true from h)), (fun h => by cases (show false = true from h)), (fun h => by cases (show false = true from h)), (fun h => by cases (show false = true from h)), (fun h => by cases (show false = true from h))⟩
  · intro L a wi i hs hI hi
    have hsN : L.size = 12 := hs
    have hn := ready_elim hi
    have hlt : i < 12 := by
        obtain ⟨o, ho, _⟩ := hn.2
        exact (Array.getElem?_eq_some_iff.1 ho).1
    have hi' := ready_not hi false (by rw [hs]; exact hlt)
    clear hn
    unfold BldInv at hI
    obtain ⟨s0, s1, s2, s3, s4, s5, s6, s7, s8, s9, s10, s11, rfl, hB, hF_C, hF_G, h0, h1, h2, h3, h4, h5, h6, h7, h8, h9, h10, h11⟩ := hI
    rcases (by omega : i = 0 ∨ i = 1 ∨ i = 2 ∨ i = 3 ∨ i = 4 ∨ i = 5 ∨ i = 6 ∨ i = 7 ∨ i = 8 ∨ i = 9 ∨ i = 10 ∨ i = 11) with rfl | rfl | rfl | rfl | rfl | rfl | rfl | rfl | rfl | rfl | rfl | rfl
    · skip
      have c0 := hcell (k := 0) (v := .int .i64 cf.clear) hF_C rfl
      have c1 := hcell (k := 1) (v := .int .i64 cf.climb) hF_C rfl
      have c2 := hcell (k := 2) (v := .int .i64 cf.height) hF_C rfl
      have c3 := hcell (k := 3) (v := .int .i64 cf.rise) hF_C rfl
      have c4 := hcell (k := 4) (v := .int .i64 cf.run) hF_C rfl
      have c5 := hcell (k := 5) (v := .int .i64 cf.w) hF_C rfl
      have c6 := hcell (k := 6) (v := .int .i64 cf.d) hF_C rfl
      refine wpOp_of rfl rfl ?_
      go_simp
      unfold BldInv
      exact ⟨_, _, _, _, _, _, _, _, _, _, _, _, rfl, (hB), (hF_C), (hF_G), (fun _ => rfl), (fun h => h1 (by rwa [getD_set_ne (by decide)] at h)), (fun h => h2 (by rwa [getD_set_ne (by decide)] at h)), (fun h => h3 (by rwa [getD_set_ne (by decide)] at h)), (fun h => h4 (by rwa [getD_set_ne (by decide)] at h)), (fun h => h5 (by rwa [getD_set_ne (by decide)] at h)), (fun h => h6 (by rwa [getD_set_ne (by decide)] at h)), (fun h => h7 (by rwa [getD_set_ne (by decide)] at h)), (fun h => h8 (by rwa [getD_set_ne (by decide)] at h)), (fun h => h9 (by rwa [getD_set_ne (by decide)] at h)), (fun h => h10 (by rwa [getD_set_ne (by decide)] at h)), (fun h => h11 (by rwa [getD_set_ne (by decide)] at h))⟩
    · skip
      refine wpOp_of rfl rfl ?_
      go_simp
      unfold BldInv
      exact ⟨_, _, _, _, _, _, _, _, _, _, _, _, rfl, (hB), (hF_C), (hF_G), (fun h => h0 (by rwa [getD_set_ne (by decide)] at h)), (fun _ => rfl), (fun h => h2 (by rwa [getD_set_ne (by decide)] at h)), (fun h => h3 (by rwa [getD_set_ne (by decide)] at h)), (fun h => h4 (by rwa [getD_set_ne (by decide)] at h)), (fun h => h5 (by rwa [getD_set_ne (by decide)] at h)), (fun h => h6 (by rwa [getD_set_ne (by decide)] at h)), (fun h => h7 (by rwa [getD_set_ne (by decide)] at h)), (fun h => h8 (by rwa [getD_set_ne (by decide)] at h)), (fun h => h9 (by rwa [getD_set_ne (by decide)] at h)), (fun h => h10 (by rwa [getD_set_ne (by decide)] at h)), (fun h => h11 (by rwa [getD_set_ne (by decide)] at h))⟩
    · skip
      refine wpOp_of rfl rfl ?_
      go_simp
      unfold BldInv
      exact ⟨_, _, _, _, _, _, _, _, _, _, _, _, rfl, (hB), (hF_C), (hF_G), (fun h => h0 (by rwa [getD_set_ne (by decide)] at h)), (fun h => h1 (by rwa [getD_set_ne (by decide)] at h)), (fun _ => rfl), (fun h => h3 (by rwa [getD_set_ne (by decide)] at h)), (fun h => h4 (by rwa [getD_set_ne (by decide)] at h)), (fun h => h5 (by rwa [getD_set_ne (by decide)] at h)), (fun h => h6 (by rwa [getD_set_ne (by decide)] at h)), (fun h => h7 (by rwa [getD_set_ne (by decide)] at h)), (fun h => h8 (by rwa [getD_set_ne (by decide)] at h)), (fun h => h9 (by rwa [getD_set_ne (by decide)] at h)), (fun h => h10 (by rwa [getD_set_ne (by decide)] at h)), (fun h => h11 (by rwa [getD_set_ne (by decide)] at h))⟩
    · skip
      have e1 := h1 (ready_dep hi (by kernel_rfl))
      subst e1
      have e2 := h2 (ready_dep hi (by kernel_rfl))
      subst e2
      refine wpOp_of rfl rfl ?_
      go_simp
      unfold BldInv
      exact ⟨_, _, _, _, _, _, _, _, _, _, _, _, rfl, (hB), (hF_C), (hF_G), (fun h => h0 (by rwa [getD_set_ne (by decide)] at h)), (fun h => h1 (by rwa [getD_set_ne (by decide)] at h)), (fun h => h2 (by rwa [getD_set_ne (by decide)] at h)), (fun _ => rfl), (fun h => h4 (by rwa [getD_set_ne (by decide)] at h)), (fun h => h5 (by rwa [getD_set_ne (by decide)] at h)), (fun h => h6 (by rwa [getD_set_ne (by decide)] at h)), (fun h => h7 (by rwa [getD_set_ne (by decide)] at h)), (fun h => h8 (by rwa [getD_set_ne (by decide)] at h)), (fun h => h9 (by rwa [getD_set_ne (by decide)] at h)), (fun h => h10 (by rwa [getD_set_ne (by decide)] at h)), (fun h => h11 (by rwa [getD_set_ne (by decide)] at h))⟩
    · skip
      have e3 := h3 (ready_dep hi (by kernel_rfl))
      subst e3
      have c0 := hcell (k := 0) (v := .int .i64 ra.x0) hF_G rfl
      have c1 := hcell (k := 1) (v := .int .i64 ra.z0) hF_G rfl
      have c2 := hcell (k := 2) (v := .int .i64 ra.x1) hF_G rfl
      have c3 := hcell (k := 3) (v := .int .i64 ra.z1) hF_G rfl
      have c4 := hcell (k := 4) (v := .int .i64 ra.area) hF_G rfl
      have c5 := hcell (k := 5) (v := .slice ha.ya ra.ys.length ha.yc) hF_G rfl
      have c6 := hcell (k := 6) (v := .slice ha.ta ra.ts.length ha.tc) hF_G rfl
      refine wpOp_of rfl rfl ?_
      go_simp
      unfold BldInv
      exact ⟨_, _, _, _, _, _, _, _, _, _, _, _, rfl, (hB), (hF_C), (hF_G), (fun h => h0 (by rwa [getD_set_ne (by decide)] at h)), (fun h => h1 (by rwa [getD_set_ne (by decide)] at h)), (fun h => h2 (by rwa [getD_set_ne (by decide)] at h)), (fun h => h3 (by rwa [getD_set_ne (by decide)] at h)), (fun _ => rfl), (fun h => h5 (by rwa [getD_set_ne (by decide)] at h)), (fun h => h6 (by rwa [getD_set_ne (by decide)] at h)), (fun h => h7 (by rwa [getD_set_ne (by decide)] at h)), (fun h => h8 (by rwa [getD_set_ne (by decide)] at h)), (fun h => h9 (by rwa [getD_set_ne (by decide)] at h)), (fun h => h10 (by rwa [getD_set_ne (by decide)] at h)), (fun h => h11 (by rwa [getD_set_ne (by decide)] at h))⟩
    · skip
      refine wpOp_of rfl rfl ?_
      go_simp
      unfold BldInv
      exact ⟨_, _, _, _, _, _, _, _, _, _, _, _, rfl, (hB), (hF_C), (hF_G), (fun h => h0 (by rwa [getD_set_ne (by decide)] at h)), (fun h => h1 (by rwa [getD_set_ne (by decide)] at h)), (fun h => h2 (by rwa [getD_set_ne (by decide)] at h)), (fun h => h3 (by rwa [getD_set_ne (by decide)] at h)), (fun h => h4 (by rwa [getD_set_ne (by decide)] at h)), (fun _ => rfl), (fun h => h6 (by rwa [getD_set_ne (by decide)] at h)), (fun h => h7 (by rwa [getD_set_ne (by decide)] at h)), (fun h => h8 (by rwa [getD_set_ne (by decide)] at h)), (fun h => h9 (by rwa [getD_set_ne (by decide)] at h)), (fun h => h10 (by rwa [getD_set_ne (by decide)] at h)), (fun h => h11 (by rwa [getD_set_ne (by decide)] at h))⟩
    · skip
      refine wpOp_of rfl rfl ?_
      go_simp
      unfold BldInv
      exact ⟨_, _, _, _, _, _, _, _, _, _, _, _, rfl, (hB), (hF_C), (hF_G), (fun h => h0 (by rwa [getD_set_ne (by decide)] at h)), (fun h => h1 (by rwa [getD_set_ne (by decide)] at h)), (fun h => h2 (by rwa [getD_set_ne (by decide)] at h)), (fun h => h3 (by rwa [getD_set_ne (by decide)] at h)), (fun h => h4 (by rwa [getD_set_ne (by decide)] at h)), (fun h => h5 (by rwa [getD_set_ne (by decide)] at h)), (fun _ => rfl), (fun h => h7 (by rwa [getD_set_ne (by decide)] at h)), (fun h => h8 (by rwa [getD_set_ne (by decide)] at h)), (fun h => h9 (by rwa [getD_set_ne (by decide)] at h)), (fun h => h10 (by rwa [getD_set_ne (by decide)] at h)), (fun h => h11 (by rwa [getD_set_ne (by decide)] at h))⟩
    · skip
      have e5 := h5 (ready_dep hi (by kernel_rfl))
      subst e5
      have e6 := h6 (ready_dep hi (by kernel_rfl))
      subst e6
      refine wpOp_of rfl rfl ?_
      go_simp
      unfold BldInv
      exact ⟨_, _, _, _, _, _, _, _, _, _, _, _, rfl, (hB), (hF_C), (hF_G), (fun h => h0 (by rwa [getD_set_ne (by decide)] at h)), (fun h => h1 (by rwa [getD_set_ne (by decide)] at h)), (fun h => h2 (by rwa [getD_set_ne (by decide)] at h)), (fun h => h3 (by rwa [getD_set_ne (by decide)] at h)), (fun h => h4 (by rwa [getD_set_ne (by decide)] at h)), (fun h => h5 (by rwa [getD_set_ne (by decide)] at h)), (fun h => h6 (by rwa [getD_set_ne (by decide)] at h)), (fun _ => rfl), (fun h => h8 (by rwa [getD_set_ne (by decide)] at h)), (fun h => h9 (by rwa [getD_set_ne (by decide)] at h)), (fun h => h10 (by rwa [getD_set_ne (by decide)] at h)), (fun h => h11 (by rwa [getD_set_ne (by decide)] at h))⟩
    · skip
      have e7 := h7 (ready_dep hi (by kernel_rfl))
      subst e7
      have c0 := hcell (k := 7) (v := .int .i64 rb.x0) hF_G rfl
      have c1 := hcell (k := 8) (v := .int .i64 rb.z0) hF_G rfl
      have c2 := hcell (k := 9) (v := .int .i64 rb.x1) hF_G rfl
      have c3 := hcell (k := 10) (v := .int .i64 rb.z1) hF_G rfl
      have c4 := hcell (k := 11) (v := .int .i64 rb.area) hF_G rfl
      have c5 := hcell (k := 12) (v := .slice hb.ya rb.ys.length hb.yc) hF_G rfl
      have c6 := hcell (k := 13) (v := .slice hb.ta rb.ts.length hb.tc) hF_G rfl
      refine wpOp_of rfl rfl ?_
      go_simp
      unfold BldInv
      exact ⟨_, _, _, _, _, _, _, _, _, _, _, _, rfl, (hB), (hF_C), (hF_G), (fun h => h0 (by rwa [getD_set_ne (by decide)] at h)), (fun h => h1 (by rwa [getD_set_ne (by decide)] at h)), (fun h => h2 (by rwa [getD_set_ne (by decide)] at h)), (fun h => h3 (by rwa [getD_set_ne (by decide)] at h)), (fun h => h4 (by rwa [getD_set_ne (by decide)] at h)), (fun h => h5 (by rwa [getD_set_ne (by decide)] at h)), (fun h => h6 (by rwa [getD_set_ne (by decide)] at h)), (fun h => h7 (by rwa [getD_set_ne (by decide)] at h)), (fun _ => rfl), (fun h => h9 (by rwa [getD_set_ne (by decide)] at h)), (fun h => h10 (by rwa [getD_set_ne (by decide)] at h)), (fun h => h11 (by rwa [getD_set_ne (by decide)] at h))⟩
    · skip
      have e0 := h0 (ready_dep hi (by kernel_rfl))
      subst e0
      have e4 := h4 (ready_dep hi (by kernel_rfl))
      subst e4
      have e8 := h8 (ready_dep hi (by kernel_rfl))
      subst e8
      refine wpOp_of rfl rfl ?_
      go_simp
      go_at_call 10
      refine (CB.out wi (HSa.out _ (hB2.trans hB)) (HSb.out _ (hB2.trans hB))).mono ?_
      rintro e wz ⟨v, rfl, hown, hbz⟩
      (try go_simp)
      unfold BldInv
      exact ⟨_, _, _, _, _, _, _, _, _, _, _, _, rfl, (hB.trans (hbz.mono (Nat.le_trans (hB2.size) hB.size))), (hkeep hbz hF_C), (hkeep hbz hF_G), (fun h => h0 (by rwa [getD_set_ne (by decide)] at h)), (fun h => h1 (by rwa [getD_set_ne (by decide)] at h)), (fun h => h2 (by rwa [getD_set_ne (by decide)] at h)), (fun h => h3 (by rwa [getD_set_ne (by decide)] at h)), (fun h => h4 (by rwa [getD_set_ne (by decide)] at h)), (fun h => h5 (by rwa [getD_set_ne (by decide)] at h)), (fun h => h6 (by rwa [getD_set_ne (by decide)] at h)), (fun h => h7 (by rwa [getD_set_ne (by decide)] at h)), (fun h => h8 (by rwa [getD_set_ne (by decide)] at h)), (fun _ => DrAt.mk hown hB.size), (fun h => h10 (by rwa [getD_set_ne (by decide)] at h)), (fun h => h11 (by rwa [getD_set_ne (by decide)] at h))⟩
    · skip
      have g9 := h9 (ready_dep hi (by kernel_rfl))
      obtain ⟨xa, xc, rfl, hop⟩ := g9
      refine wpOp_of rfl rfl ?_
      go_simp
      unfold BldInv
      exact ⟨_, _, _, _, _, _, _, _, _, _, _, _, rfl, (hB), (hF_C), (hF_G), (fun h => h0 (by rwa [getD_set_ne (by decide)] at h)), (fun h => h1 (by rwa [getD_set_ne (by decide)] at h)), (fun h => h2 (by rwa [getD_set_ne (by decide)] at h)), (fun h => h3 (by rwa [getD_set_ne (by decide)] at h)), (fun h => h4 (by rwa [getD_set_ne (by decide)] at h)), (fun h => h5 (by rwa [getD_set_ne (by decide)] at h)), (fun h => h6 (by rwa [getD_set_ne (by decide)] at h)), (fun h => h7 (by rwa [getD_set_ne (by decide)] at h)), (fun h => h8 (by rwa [getD_set_ne (by decide)] at h)), (fun h => h9 (by rwa [getD_set_ne (by decide)] at h)), (fun _ => rfl), (fun h => h11 (by rwa [getD_set_ne (by decide)] at h))⟩
    · skip
      refine wpOp_of rfl rfl ?_
      go_simp
      unfold BldInv
      exact ⟨_, _, _, _, _, _, _, _, _, _, _, _, rfl, (hB), (hF_C), (hF_G), (fun h => h0 (by rwa [getD_set_ne (by decide)] at h)), (fun h => h1 (by rwa [getD_set_ne (by decide)] at h)), (fun h => h2 (by rwa [getD_set_ne (by decide)] at h)), (fun h => h3 (by rwa [getD_set_ne (by decide)] at h)), (fun h => h4 (by rwa [getD_set_ne (by decide)] at h)), (fun h => h5 (by rwa [getD_set_ne (by decide)] at h)), (fun h => h6 (by rwa [getD_set_ne (by decide)] at h)), (fun h => h7 (by rwa [getD_set_ne (by decide)] at h)), (fun h => h8 (by rwa [getD_set_ne (by decide)] at h)), (fun h => h9 (by rwa [getD_set_ne (by decide)] at h)), (fun h => h10 (by rwa [getD_set_ne (by decide)] at h)), (fun _ => rfl)⟩
  · intro L a wi hI hall
    unfold BldInv at hI
    obtain ⟨s0, s1, s2, s3, s4, s5, s6, s7, s8, s9, s10, s11, rfl, hB, hF_C, hF_G, h0, h1, h2, h3, h4, h5, h6, h7, h8, h9, h10, h11⟩ := hI
    have e0 := h0 (hall 0 (by decide))
    subst e0
    have e1 := h1 (hall 1 (by decide))
    subst e1
    have e2 := h2 (hall 2 (by decide))
    subst e2
    have e3 := h3 (hall 3 (by decide))
    subst e3
    have e4 := h4 (hall 4 (by decide))
    subst e4
    have e5 := h5 (hall 5 (by decide))
    subst e5
    have e6 := h6 (hall 6 (by decide))
    subst e6
    have e7 := h7 (hall 7 (by decide))
    subst e7
    have e8 := h8 (hall 8 (by decide))
    subst e8
    have g9 := h9 (hall 9 (by decide))
    have e10 := h10 (hall 10 (by decide))
    subst e10
    have e11 := h11 (hall 11 (by decide))
    subst e11
    clear hall h9
    obtain ⟨xa, xc, rfl, hop⟩ := g9
    have hB9 := hB2.trans hB
    rcases HD0.out with hd | ⟨d, hd⟩
    · clear hop hF_C hF_G hB
      subst hd
      clear HD0
      simp only [List.length_nil]
      have hz : ¬ ((0 : Nat) : Int) < ((0 : Nat) : Int) := by omega
      go_wp2
      refine wp_loop_rounds 1 ?_
      rw [rounds_succ]
      go_wp2
      rw [rounds_succ]
      go_wp2
      rw [rounds_succ]
      go_wp2_with fail
      refine (sortdr_none _ _ _ _).mono ?_
      rintro e w9 ⟨rfl, rfl⟩
      go_wp2
      go_ret2
      exact ⟨_, rfl, OwnR.nil _ _ _ _ _, hB9⟩
    · obtain ⟨ad', c', e, hsl⟩ := OwnR.reads drC_len hop
      subst hd
      cases e
      obtain ⟨b1, off1, rfl, hbl1, _⟩ := hsl.at0 (by simp)
      have p0 := SlDr.cells hsl (k := 0) rfl 0 _ rfl
      have p1 := SlDr.cells hsl (k := 0) rfl 1 _ rfl
      have p2 := SlDr.cells hsl (k := 0) rfl 2 _ rfl
      have p3 := SlDr.cells hsl (k := 0) rfl 3 _ rfl
      have p4 := SlDr.cells hsl (k := 0) rfl 4 _ rfl
      have p5 := SlDr.cells hsl (k := 0) rfl 5 _ rfl
      simp only [Nat.zero_mul, Nat.add_zero] at p0 p1 p2 p3 p4 p5
      obtain ⟨da, db, dx0, dz0, dx1, dz1⟩ := d
      dsimp only at p0 p1 p2 p3 p4 p5
      clear hop hsl hF_C hF_G hB HD0
      have hz := hB9.size
      obtain ⟨i0, hi, hz0, hz1, hz2⟩ := info_parts info_dr
      simp only [List.length_cons, List.length_nil]
      go_wp2
      refine wp_loop_rounds 2 ?_
      rw [rounds_succ]
      go_upto_region 15 with fail
      clear p0 p1 p2 p3 p4 p5
      go_upto_region 16 with fail
      have hd5 := World.alloc_heap_new wi (.cells #[.int .i64 0, .int .i64 1, .int .i64 dx0, .int .i64 dz0, .int .i64 dx1, .int .i64 dz1] 35 (0, 0))
      have hB5 := hB9.alloc hz (.cells #[.int .i64 0, .int .i64 1, .int .i64 dx0, .int .i64 dz0, .int .i64 dx1, .int .i64 dz1] 35 (0, 0))
      obtain ⟨W5, hW5⟩ : ∃ W, W = wi.alloc (.cells #[.int .i64 0, .int .i64 1, .int .i64 dx0, .int .i64 dz0, .int .i64 dx1, .int .i64 dz1] 35 (0, 0)) := ⟨_, rfl⟩
      rw [← hW5] at hd5 hB5
      rw [← hW5]
      clear hW5 hB9
      have n0 := hcell (k := 0) (v := .int .i64 0) hd5 rfl
      have n1 := hcell (k := 1) (v := .int .i64 1) hd5 rfl
      have n2 := hcell (k := 2) (v := .int .i64 dx0) hd5 rfl
      have n3 := hcell (k := 3) (v := .int .i64 dz0) hd5 rfl
      have n4 := hcell (k := 4) (v := .int .i64 dx1) hd5 rfl
      have n5 := hcell (k := 5) (v := .int .i64 dz1) hd5 rfl
      have hz5 := hB5.size
      clear hd5
      go_wp2_with (at_builtin; refine wpList_append_own _ rfl _ _ 30 rfl w.heap.size 35 i0 (.agg #[.int .i64 0, .int .i64 0, .int .i64 0, .int .i64 0, .int .i64 0, .int .i64 0]) 6 48 Try.underlying30 hi hz0 hz1 hz2 rfl (by decide) _ _ _ rfl (World.ownsRow_nil _ _ _ _) ⟨W5.heap.size, 0, none⟩ 1 1 [.int .i64 0, .int .i64 1, .int .i64 dx0, .int .i64 dz0, .int .i64 dx1, .int .i64 dz1] rfl rfl (fun j u hu => by rw [Addr.add_lit, Nat.zero_add, World.cell?_alloc_at _ _ _ _ rfl]; simpa using hu) (by simp [Value.oneCell']) (by unfold maxLen; omega) (by omega) (by simp; omega) ?_; intro v' w5 hown' hgrow _; obtain ⟨g', cap', rfl⟩ := ownsRow_succ hown')
      clear n0 n1 n2 n3 n4 n5
      have hB6 := (hB5.alloc hz5 _).grown hgrow (by simp; omega) (fun j hj => by cases hj)
      rw [rounds_succ]
      go_wp2
      rw [rounds_succ]
      go_wp2
      rw [rounds_succ]
      go_wp2_with fail
      refine (sortdr_one _ _ _ _).mono ?_
      rintro e w9 ⟨rfl, rfl⟩
      go_wp2
      go_ret2
      exact ⟨_, rfl, ⟨rfl, hown'⟩, hB6⟩
end Go.Proofs.Ytjiklfffcnfdjaa
