/- Walks: CodeSoups. -/
import Derived.Test.YtilhmlapbifbbaaSoL
import Derived.Test.YtilhmlapbifbbaaSoE
import Derived.Test.YtilhmlapbifbbaaSoM
import Derived.Test.YtilhmlapbifbbaaNumL
namespace Go.Proofs.Ytilhmlapbifbbaa
open Go.RowKit Go.Sort

set_option maxHeartbeats 1000000 in
theorem refSoup_any (c : Cfg) (p q r : SHead) (s : Sou) (w : World) (hs : SoupAt w p q r s) :
    Calls Try.prog 51 #[cfgV c, soupV p q r] w (NumPost w (soupB c s) (soupE c s)) := by
  obtain ⟨E, hE⟩ : ∃ E, E = soupE c s := ⟨_, rfl⟩
  obtain ⟨BB, hBB⟩ : ∃ BB, BB = soupB c s := ⟨_, rfl⟩
  rw [← hE, ← hBB]
  have Hc := Lib.hid (fun (w' : World) (h' : SoupAt w' p q r s) => by have := refsoupcheck_any c p q r s w' h'; rwa [← hE] at this)
  have Hm := Lib.hid (fun (w' : World) (h' : SoupAt w' p q r s) (hF : SoupF c s) => refsoup_any c p q r s w' h' hF)
  have Hs := Lib.hid hs
  have HE := Lib.hid hE
  have HB := Lib.hid hBB
  clear hE hBB hs
  obtain ⟨pa, pn, pc⟩ := p
  obtain ⟨qa, qn, qc⟩ := q
  obtain ⟨ra, rn, rc⟩ := r
  unfold soupV SHead.v cfgV at *
  go_enter Try.func51, Try.ntmps51
  go_wp2_with fail
  refine (Hc.out _ (Hs.out.below (by (repeat (first | exact Below.refl _ _ | refine Below.alloc ?_ (by simp; try omega) _))))).mono ?_
  rintro e w1 ⟨rfl, hb1⟩
  have hb1s := hb1.size
  simp only [World.size_alloc] at hb1s
  have hA : w1.heap[w.heap.size]? = some (.cells #[.int .i64 c.clear, .int .i64 c.climb, .int .i64 c.height, .int .i64 c.rise, .int .i64 c.run, .int .i64 c.w, .int .i64 c.d] 32 (0, 0)) :=
    (hb1.block w.heap.size (by simp; omega)).trans ((Below.heap_alloc _ _ w.heap.size (by simp)).trans (World.alloc_heap_new _ _))
  have hB : w1.heap[w.heap.size + 1]? = some (.cells #[.slice pa pn pc, .slice qa qn qc, .slice ra rn rc] 71 (0, 0)) := by
    refine (hb1.block (w.heap.size + 1) (by simp)).trans ?_
    simpa only [World.size_alloc] using World.alloc_heap_new (w.alloc (.cells #[.int .i64 c.clear, .int .i64 c.climb, .int .i64 c.height, .int .i64 c.rise, .int .i64 c.run, .int .i64 c.w, .int .i64 c.d] 32)) (.cells #[.slice pa pn pc, .slice qa qn qc, .slice ra rn rc] 71)
  have hbw : Below w.heap.size w w1 := (by (repeat (first | exact Below.refl _ _ | refine Below.alloc ?_ (by simp; try omega) _)) : Below w.heap.size w _).trans (hb1.mono (by simp; omega))
  clear hb1
  have a0 := cell_heap (k := 0) (v := .int .i64 c.clear) hA rfl
  have a1 := cell_heap (k := 1) (v := .int .i64 c.climb) hA rfl
  have a2 := cell_heap (k := 2) (v := .int .i64 c.height) hA rfl
  have a3 := cell_heap (k := 3) (v := .int .i64 c.rise) hA rfl
  have a4 := cell_heap (k := 4) (v := .int .i64 c.run) hA rfl
  have a5 := cell_heap (k := 5) (v := .int .i64 c.w) hA rfl
  have a6 := cell_heap (k := 6) (v := .int .i64 c.d) hA rfl
  have b0 := cell_heap (k := 0) (v := .slice pa pn pc) hB rfl
  have b1 := cell_heap (k := 1) (v := .slice qa qn qc) hB rfl
  have b2 := cell_heap (k := 2) (v := .slice ra rn rc) hB rfl
  clear hA hB hb1s
  have Hbw := Lib.hid hbw
  have Hs1 := Lib.hid (Hs.out.below hbw)
  clear hbw
  by_cases hE0 : E = 0
  rotate_left
  · have hd : (E != 0) = true := by simpa using hE0
    have HF : Hid (BB = []) := by show _ = _; rw [HB.out, soupB, ← HE.out, if_neg hE0]
    clear hE0 a0 a1 a2 a3 a4 a5 a6 b0 b1 b2
    go_wp2
    go_ret2
    unfold NumPost
    rw [HF.out]
    exact ⟨_, rfl, OwnI.nil _ _ _ _, Hbw.out⟩
  have HF : Hid (SoupF c s) := soupE_F (HE.out.symm.trans hE0)
  have HBB : Hid (BB = encs (soupN c s)) := by show _ = _; rw [HB.out, soupB, ← HE.out, if_pos hE0]
  clear HB HE
  subst hE0
  go_wp2_with fail
  refine (Hm.out _ Hs1.out HF.out).mono ?_
  rintro e w2 ⟨v2, n2, rfl, ho2, hb2⟩
  go_wp2
  go_ret2
  unfold NumPost
  rw [HBB.out]
  have hlen := ho2.length
  subst hlen
  exact ⟨_, rfl, ho2.mono Hbw.out.size, below_step2 Hbw.out hb2⟩

def greatS (s : Sou) : Bool := decide (400 < s.t.length) || decide (100 < s.b.length) || decide (100 < s.h.length)
set_option maxHeartbeats 1000000 in
theorem greatsoup_any (p q r : SHead) (s : Sou) (w : World) (hs : SoupAt w p q r s) :
    Calls Try.prog 49 #[soupV p q r] w fun e w' => e = .returned (.bool (greatS s)) ∧ Below w.heap.size w w' := by
  obtain ⟨pa, pn, pc⟩ := p
  obtain ⟨qa, qn, qc⟩ := q
  obtain ⟨ra, rn, rc⟩ := r
  have lt := Lib.hid hs.t.len
  have lb := Lib.hid hs.b.len
  have lh := Lib.hid hs.h.len
  clear hs
  unfold soupV SHead.v
  have HB : ∀ o, Below w.heap.size w (w.alloc o) := fun o => (Below.refl _ _).alloc (Nat.le_refl _) _
  by_cases h0 : 400 < pn
  · have hI : (400 : Int) < (pn : Int) := by omega
    have dI : decide ((400 : Int) < (pn : Int)) = true := decide_eq_true hI
    have HG : Hid (greatS s = true) := by show _ = _; unfold greatS; rw [lt.out, decide_eq_true h0]; rfl
    clear h0
    go_enter Try.func49, Try.ntmps49
    go_wp2
    go_ret
    exact ⟨ret_bool HG.out.symm, HB _⟩
  have hI0 : ¬ (400 : Int) < (pn : Int) := by omega
  have dI0 : decide ((400 : Int) < (pn : Int)) = false := decide_eq_false hI0
  by_cases h1 : 100 < qn
  · have hI : (100 : Int) < (qn : Int) := by omega
    have dI : decide ((100 : Int) < (qn : Int)) = true := decide_eq_true hI
    have HG : Hid (greatS s = true) := by show _ = _; unfold greatS; rw [lb.out, decide_eq_true h1]; simp
    clear h0 h1
    go_enter Try.func49, Try.ntmps49
    go_wp2
    go_ret
    exact ⟨ret_bool HG.out.symm, HB _⟩
  have hI1 : ¬ (100 : Int) < (qn : Int) := by omega
  have dI1 : decide ((100 : Int) < (qn : Int)) = false := decide_eq_false hI1
  by_cases h2 : 100 < rn
  · have hI : (100 : Int) < (rn : Int) := by omega
    have dI : decide ((100 : Int) < (rn : Int)) = true := decide_eq_true hI
    have HG : Hid (greatS s = true) := by show _ = _; unfold greatS; rw [lh.out, decide_eq_true h2]; simp
    clear h0 h1 h2
    go_enter Try.func49, Try.ntmps49
    go_wp2
    go_ret
    exact ⟨ret_bool HG.out.symm, HB _⟩
  have hI2 : ¬ (100 : Int) < (rn : Int) := by omega
  have dI2 : decide ((100 : Int) < (rn : Int)) = false := decide_eq_false hI2
  have HG : Hid (greatS s = false) := by show _ = _; unfold greatS; rw [lt.out, lb.out, lh.out, decide_eq_false h0, decide_eq_false h1, decide_eq_false h2]; rfl
  clear h0 h1 h2
  go_enter Try.func49, Try.ntmps49
  go_wp2
  go_ret
  exact ⟨ret_bool HG.out.symm, HB _⟩

set_option maxHeartbeats 1000000 in
theorem codesoups_any (c : Cfg) (p q r : SHead) (s : Sou) (w : World) (hs : SoupAt w p q r s) :
    Calls Try.prog 10 #[cfgV c, soupV p q r] w fun e w' => e = .returned (.bool true) ∧ Below w.heap.size w w' := by
  have Hs := Lib.hid hs
  have G := Lib.hid (fun (w' : World) (h' : SoupAt w' p q r s) => greatsoup_any p q r s w' h')
  have C1 := Lib.hid (fun (w' : World) (h' : SoupAt w' p q r s) => codesoup_any c p q r s w' h')
  have C2 := Lib.hid (fun (w' : World) (h' : SoupAt w' p q r s) => refSoup_any c p q r s w' h')
  obtain ⟨E, hE⟩ : ∃ E, E = soupE c s := ⟨_, rfl⟩
  obtain ⟨BB, hBB⟩ : ∃ BB, BB = soupB c s := ⟨_, rfl⟩
  obtain ⟨GG, hGG⟩ : ∃ GG, GG = greatS s := ⟨_, rfl⟩
  rw [← hGG] at G
  rw [← hE, ← hBB] at C1 C2
  clear hs hE hBB hGG
  obtain ⟨pa, pn, pc⟩ := p
  obtain ⟨qa, qn, qc⟩ := q
  obtain ⟨ra, rn, rc⟩ := r
  unfold soupV SHead.v cfgV at *
  go_enter Try.func10, Try.ntmps10
  go_wp2_with fail
  refine (G.out _ (Hs.out.below (by (repeat (first | exact Below.refl _ _ | refine Below.alloc ?_ (by simp; try omega) _))))).mono ?_
  rintro e w1 ⟨rfl, hb1⟩
  have hb1s := hb1.size
  simp only [World.size_alloc] at hb1s
  have hA : w1.heap[w.heap.size]? = some (.cells #[.int .i64 c.clear, .int .i64 c.climb, .int .i64 c.height, .int .i64 c.rise, .int .i64 c.run, .int .i64 c.w, .int .i64 c.d] 32 (0, 0)) :=
    (hb1.block w.heap.size (by simp; omega)).trans ((Below.heap_alloc _ _ w.heap.size (by simp)).trans (World.alloc_heap_new _ _))
  have hB : w1.heap[w.heap.size + 1]? = some (.cells #[.slice pa pn pc, .slice qa qn qc, .slice ra rn rc] 71 (0, 0)) := by
    refine (hb1.block (w.heap.size + 1) (by simp)).trans ?_
    simpa only [World.size_alloc] using World.alloc_heap_new (w.alloc (.cells #[.int .i64 c.clear, .int .i64 c.climb, .int .i64 c.height, .int .i64 c.rise, .int .i64 c.run, .int .i64 c.w, .int .i64 c.d] 32)) (.cells #[.slice pa pn pc, .slice qa qn qc, .slice ra rn rc] 71)
  have hbw : Below w.heap.size w w1 := (by (repeat (first | exact Below.refl _ _ | refine Below.alloc ?_ (by simp; try omega) _)) : Below w.heap.size w _).trans (hb1.mono (by simp; omega))
  clear hb1
  have HA := Lib.hid (fun (W : World) (hW : Below w1.heap.size w1 W) => (hW.block w.heap.size (by omega)).trans hA)
  have HB := Lib.hid (fun (W : World) (hW : Below w1.heap.size w1 W) => (hW.block (w.heap.size + 1) (by omega)).trans hB)
  have Hbw := Lib.hid hbw
  have HS := Lib.hid (Hs.out.below hbw)
  clear hA hB hbw hb1s
  cases GG with
  | true =>
    go_wp2_with fail
    refine (wakes20_any _).mono ?_
    rintro e w2 ⟨rfl, hb2⟩
    go_wp2
    go_ret
    exact ⟨rfl, below_step2 Hbw.out hb2⟩
  | false =>
  have a0 := cell_heap (k := 0) (v := .int .i64 c.clear) (HA.out w1 (Below.refl _ _)) rfl
  have a1 := cell_heap (k := 1) (v := .int .i64 c.climb) (HA.out w1 (Below.refl _ _)) rfl
  have a2 := cell_heap (k := 2) (v := .int .i64 c.height) (HA.out w1 (Below.refl _ _)) rfl
  have a3 := cell_heap (k := 3) (v := .int .i64 c.rise) (HA.out w1 (Below.refl _ _)) rfl
  have a4 := cell_heap (k := 4) (v := .int .i64 c.run) (HA.out w1 (Below.refl _ _)) rfl
  have a5 := cell_heap (k := 5) (v := .int .i64 c.w) (HA.out w1 (Below.refl _ _)) rfl
  have a6 := cell_heap (k := 6) (v := .int .i64 c.d) (HA.out w1 (Below.refl _ _)) rfl
  have b0 := cell_heap (k := 0) (v := .slice pa pn pc) (HB.out w1 (Below.refl _ _)) rfl
  have b1 := cell_heap (k := 1) (v := .slice qa qn qc) (HB.out w1 (Below.refl _ _)) rfl
  have b2 := cell_heap (k := 2) (v := .slice ra rn rc) (HB.out w1 (Below.refl _ _)) rfl
  go_wp2_with fail
  refine (C1.out _ HS.out).mono ?_
  unfold NumPost
  rintro e w2 ⟨v1, rfl, hown, hb2⟩
  obtain ⟨a1', k1, rfl, hs1⟩ := hown.reads
  have Hs1 := Lib.hid hs1
  clear hs1 hown
  clear a0 a1 a2 a3 a4 a5 a6 b0 b1 b2
  have a0 := cell_heap (k := 0) (v := .int .i64 c.clear) (HA.out w2 hb2) rfl
  have a1 := cell_heap (k := 1) (v := .int .i64 c.climb) (HA.out w2 hb2) rfl
  have a2 := cell_heap (k := 2) (v := .int .i64 c.height) (HA.out w2 hb2) rfl
  have a3 := cell_heap (k := 3) (v := .int .i64 c.rise) (HA.out w2 hb2) rfl
  have a4 := cell_heap (k := 4) (v := .int .i64 c.run) (HA.out w2 hb2) rfl
  have a5 := cell_heap (k := 5) (v := .int .i64 c.w) (HA.out w2 hb2) rfl
  have a6 := cell_heap (k := 6) (v := .int .i64 c.d) (HA.out w2 hb2) rfl
  have b0 := cell_heap (k := 0) (v := .slice pa pn pc) (HB.out w2 hb2) rfl
  have b1 := cell_heap (k := 1) (v := .slice qa qn qc) (HB.out w2 hb2) rfl
  have b2 := cell_heap (k := 2) (v := .slice ra rn rc) (HB.out w2 hb2) rfl
  go_wp2_with fail
  refine (C2.out _ (HS.out.below hb2)).mono ?_
  unfold NumPost
  rintro e w3 ⟨v2, rfl, hown, hb3⟩
  obtain ⟨a2', k2, rfl, hs2⟩ := hown.reads
  have Hs2 := Lib.hid hs2
  clear hs2 hown
  have hb13 : Below w1.heap.size w1 w3 := below_step hb2 hb3
  clear a0 a1 a2 a3 a4 a5 a6 b0 b1 b2
  go_wp2_with fail
  refine (bytes_any a1' a2' _ k1 _ k2 _ _ _ (Hs1.out.below hb3 (Nat.le_refl _)) Hs2.out).mono ?_
  rintro e w4 ⟨rfl, q, hw4⟩
  have hb4 : Below w1.heap.size w1 w4 := by rw [hw4]; exact below_drewN hb13 _
  clear hw4
  rw [decide_eq_true (rfl : BB = BB)]
  go_wp2_with fail
  refine (wakes20_any _).mono ?_
  rintro e w5 ⟨rfl, hb5⟩
  have hb6 := below_step hb4 hb5
  go_wp2
  go_ret
  exact ⟨rfl, below_step2 Hbw.out hb6⟩

end Go.Proofs.Ytilhmlapbifbbaa
