/- Walks: is a soup great? A row's first bytes. -/
import Derived.Test.YtgfmdgiepomkiaaGreatLc
import Derived.Test.YtgfmdgiepomkiaaGreatKb
import Derived.Test.YtgfmdgiepomkiaaGreatKi
import Derived.Test.YtgfmdgiepomkiaaGreatNumV
namespace Go.Proofs.YtgfmdgiepomkiaaGreat
open Go.RowKit Go.Sort

def greatS (s : Sou) : Bool := decide (400 < s.t.length) || decide (100 < s.b.length) || decide (100 < s.h.length)
set_option maxHeartbeats 1000000 in
theorem greatsoup_any (p q r : SHead) (s : Sou) (w : World) (hs : SoupAt w p q r s) :
  Calls Tryz.prog 4 #[soupV p q r] w fun e w' => e = .returned (.bool (greatS s)) ∧ Below w.heap.size w w' := by
 obtain ⟨pa, pn, pc⟩ := p
 obtain ⟨qa, qn, qc⟩ := q
 obtain ⟨ra, rn, rc⟩ := r
 have lt := Lib.hid hs.t.len
 have lb := Lib.hid hs.b.len
 have lh := Lib.hid hs.h.len
 clear hs
 unfold soupV SHead.v
 have HB : ∀ o, Below w.heap.size w (w.alloc o) := fun o => (Below.refl _ _).alloc (Nat.le_refl _) _
 by_cases h0 : 400 < pn
 ·
  have hI : (400 : Int) < (pn : Int) := by omega
  have dI : decide ((400 : Int) < (pn : Int)) = true := decide_eq_true hI
  have HG : Hid (greatS s = true) := by show _ = _; unfold greatS; rw [lt.out, decide_eq_true h0]; rfl
  clear h0
  go_enter Tryz.func4, Tryz.ntmps4
  go_wp2
  go_ret
  exact ⟨ret_bool HG.out.symm, HB _⟩
 have hI0 : ¬ (400 : Int) < (pn : Int) := by omega
 have dI0 : decide ((400 : Int) < (pn : Int)) = false := decide_eq_false hI0
 by_cases h1 : 100 < qn
 ·
  have hI : (100 : Int) < (qn : Int) := by omega
  have dI : decide ((100 : Int) < (qn : Int)) = true := decide_eq_true hI
  have HG : Hid (greatS s = true) := by show _ = _; unfold greatS; rw [lb.out, decide_eq_true h1]; simp
  clear h0 h1
  go_enter Tryz.func4, Tryz.ntmps4
  go_wp2
  go_ret
  exact ⟨ret_bool HG.out.symm, HB _⟩
 have hI1 : ¬ (100 : Int) < (qn : Int) := by omega
 have dI1 : decide ((100 : Int) < (qn : Int)) = false := decide_eq_false hI1
 by_cases h2 : 100 < rn
 ·
  have hI : (100 : Int) < (rn : Int) := by omega
  have dI : decide ((100 : Int) < (rn : Int)) = true := decide_eq_true hI
  have HG : Hid (greatS s = true) := by show _ = _; unfold greatS; rw [lh.out, decide_eq_true h2]; simp
  clear h0 h1 h2
  go_enter Tryz.func4, Tryz.ntmps4
  go_wp2
  go_ret
  exact ⟨ret_bool HG.out.symm, HB _⟩
 have hI2 : ¬ (100 : Int) < (rn : Int) := by omega
 have dI2 : decide ((100 : Int) < (rn : Int)) = false := decide_eq_false hI2
 have HG : Hid (greatS s = false) := by show _ = _; unfold greatS; rw [lt.out, lb.out, lh.out, decide_eq_false h0, decide_eq_false h1, decide_eq_false h2]; rfl
 clear h0 h1 h2
 go_enter Tryz.func4, Tryz.ntmps4
 go_wp2
 go_ret
 exact ⟨ret_bool HG.out.symm, HB _⟩

theorem SlI.take {k : IntKind} {w : World} {a : Option Addr} {n c : Nat} {xs : List Int} (h : SlI k w a n c xs) {m : Nat} (hm : m ≤ n) : SlI k w a m c (xs.take m) := by
 refine ⟨by rw [List.length_take, h.len]; omega, Nat.le_trans hm h.le, h.max, ?_⟩
 rcases h.cell with h0 | ⟨b, off, ha, hc⟩
 ·
  exact .inl (by omega)
 ·
  refine .inr ⟨b, off, ha, fun i hi => ?_⟩
  have := hc i (by omega)
  rw [this]
  simp only [List.getD_eq_getElem?_getD, List.getElem?_take, if_pos hi]
theorem bytes_bel (a b : Option Addr) (n c m d : Nat) (xs ys : List Int) (w : World) (hx : SlI .u8 w a n c xs) (hy : SlI .u8 w b m d ys) :
  Calls Tryz.prog 14 #[.slice a n c, .slice b m d] w fun e w' => e = .returned (.bool (decide (xs = ys))) ∧ Below w.heap.size w w' :=
 (bytes_any a b n c m d xs ys w hx hy).mono (by rintro _ _ ⟨rfl, q, rfl⟩; exact ⟨rfl, below_drewN (Below.refl _ _) q⟩)
end Go.Proofs.YtgfmdgiepomkiaaGreat

namespace Go.Proofs.YtgfmdgiepomkiaaGreat
open Go.RowKit Go.Sort
attribute [local go_sem] Instr.index

abbrev u8F (x : Int) : List Value := [.int .u8 x]
theorem u8F_map (xs : List Int) : xs.flatMap u8F = xs.map (Value.int .u8) := by
 induction xs with
 | nil => rfl
 | cons x xs ih => rw [List.flatMap_cons, ih]; rfl
theorem SlI.asR {w : World} {a : Option Addr} {n c : Nat} {xs : List Int} (h : SlI .u8 w a n c xs) (hfar : n = 0 ∨ ∀ ad, a = some ad → ad.block < w.heap.size) : SlR u8F 1 w a n c xs := by
 refine ⟨h.len, h.le, h.max, ?_⟩
 rcases h.cell with h0 | ⟨b, off, ha, hc⟩
 ·
  exact .inl h0
 ·
  by_cases h0 : n = 0
  ·
   exact .inl h0
  refine .inr ⟨b, off, ha, (hfar.resolve_left h0) _ ha, fun i x hx j v hv => ?_⟩
  have hi : i < n := by have := h.len; rw [← this]; exact (List.getElem?_eq_some_iff.1 hx).1
  have := hc i hi
  rw [List.getD_eq_getElem?_getD, hx] at this
  cases j with
  | zero =>
   simp at hv
   subst hv
   simpa using this
  | succ j => simp at hv
theorem info_u8B : (Tryz.prog.info? 5).map (fun i => (i.zero, i.size, i.bytes)) = some (some (.int .u8 0), 1, 1) := by kernel_rfl
theorem OwnR.asI {B : Nat} {w : World} {v : Value} {n : Nat} {xs : List Int} (h : OwnR u8F 1 5 B w v n xs) : OwnI .u8 5 B w v n xs := by
 have := h.2
 rw [u8F_map] at this
 exact this
theorem u8F_one (x : Int) : ∀ u ∈ u8F x, u.oneCell' = true := by
 intro u hu
 simp only [List.mem_cons, List.not_mem_nil, or_false] at hu
 subst hu
 rfl
theorem own_empty (w : World) : OwnR u8F 1 5 w.heap.size (w.alloc (.cells #[] 5 (0, 0))) (.slice (some ⟨w.heap.size, 0, none⟩) 0 0) 0 [] := by
 refine ⟨rfl, rfl, .inr ⟨w.heap.size, 0, #[], rfl, Nat.le_refl _, World.alloc_heap_new _ _, Nat.le_refl _, by unfold maxLen; omega, rfl, rfl⟩⟩
set_option maxRecDepth 100000 in
set_option maxHeartbeats 4000000 in
theorem behind_any (a : Option Addr) (n c : Nat) (xs : List Int) (b : Option Addr) (m d : Nat) (ys : List Int) (w : World) (hx : SlI .u8 w a n c xs) (hfx : n = 0 ∨ ∀ ad, a = some ad → ad.block < w.heap.size) (hy : SlI .u8 w b m d ys) (hfy : m = 0 ∨ ∀ ad, b = some ad → ad.block < w.heap.size) (hn : n ≤ 200000) (hm : m ≤ 200000) :
  Calls Tryz.prog 9 #[.slice a n c, .slice b m d] w fun e w' => ∃ v, e = .returned v ∧ OwnI .u8 5 w.heap.size w' v (n + m) (xs ++ ys) ∧ Below w.heap.size w w' := by
 have hxr := (hx.asR hfx).alloc (.cells #[] 5 (0, 0))
 have hyr := (hy.asR hfy).alloc (.cells #[] 5 (0, 0))
 have hE := own_empty w
 have hB : Below w.heap.size w (w.alloc (.cells #[] 5 (0, 0))) := (Below.refl _ _).alloc (Nat.le_refl _) _
 clear hx hy hfx
 go_enter Tryz.func9, Tryz.ntmps9
 have hbs : w.heap.size ≤ (w.alloc (.cells #[] 5 (0, 0))).heap.size := hB.size
 have HY2 : Hid (∀ w1, Below w.heap.size (w.alloc (.cells #[] 5 (0, 0))) w1 → SlR u8F 1 w1 b m d ys) := fun w1 h => by
  refine ⟨hyr.len, hyr.le, hyr.max, ?_⟩
  rcases hyr.cell with h0 | ⟨g, off, ha, hb2, hc⟩
  ·
   exact .inl h0
  ·
   by_cases h0 : m = 0
   ·
    exact .inl h0
   ·
    have hg : g < w.heap.size := hfy.resolve_left h0 _ ha
    exact .inr ⟨g, off, ha, Nat.lt_of_lt_of_le hb2 h.size, fun i x hx j v hv => by
     have := hc i x hx j v hv
     simp only [World.cell?] at this ⊢
     rwa [h.block g hg]⟩
 clear hyr hfy
 go_wp2_with (at_builtin; first | (refine wpList_appSA (f := u8F) (sz := 1) (e := 5) (w.alloc (.cells #[] 5 (0, 0))) (fun _ => rfl) u8F_one rfl _ _ 33 rfl (.int .u8 0) 1 Tryz.underlying33 info_u8B rfl (by decide) w.heap.size _ 0 [] hE (by rfl) a n c xs hxr (by rfl) (by omega) (by omega) hbs ?_; intro v1 w1 ho1 hb1; have hy1 := HY2.out w1 hb1; have hB1 := hB.trans hb1; have hs1 := hB1.size; clear hE hxr) | (refine wpList_appSA (f := u8F) (sz := 1) (e := 5) w1 (fun _ => rfl) u8F_one rfl _ _ 33 rfl (.int .u8 0) 1 Tryz.underlying33 info_u8B rfl (by decide) w.heap.size _ (0 + n) ([] ++ xs) ho1 (by rfl) b m d ys hy1 (by rfl) (by omega) (by omega) hs1 ?_; intro v2 w2 ho2 hb2; have hB2 := hB1.trans hb2; obtain ⟨va, vc, rfl, _⟩ := OwnR.reads (f := u8F) (sz := 1) (fun _ => rfl) ho2; clear ho1 hy1))
 go_ret
 refine ⟨_, rfl, ?_, hB2⟩
 simpa using ho2.asI
end Go.Proofs.YtgfmdgiepomkiaaGreat

namespace Go.Proofs.YtgfmdgiepomkiaaGreat
open Go.RowKit

set_option maxHeartbeats 400000 in
theorem wakes20_any (w : World) :
  Calls Tryz.prog 6 #[] w fun e w' => e = .returned (.bool true) ∧ Below w.heap.size w w' := by
 have c1 := fun w => number_any 300 w (by decide)
 have c2 := fun w => signed_any (-1) w
 rw [numL_300, numE_300] at c1
 rw [sgnL_m1, sgnE_m1] at c2
 have H1 := Lib.hid c1; clear c1
 have H2 := Lib.hid c2; clear c2
 go_enter Tryz.func6, Tryz.ntmps6
 go_wp2_with fail
 refine (H1.out _).mono ?_
 rintro e w1 ⟨v1, rfl, hown1, hb1⟩
 obtain ⟨a1, k1, rfl, hs1⟩ := hown1.reads
 have Hs1 := Lib.hid hs1
 clear hs1 hown1
 go_wp2_with fail
 refine (H2.out _).mono ?_
 rintro e w2 ⟨v2, rfl, hown2, hb2⟩
 obtain ⟨a2, k2, rfl, hs2⟩ := hown2.reads
 have Hs2 := Lib.hid hs2
 clear hs2 hown2
 go_wp2_with fail
 refine (readnumber_any (some ⟨w2.heap.size, 0, none⟩) 3 3 [172, 2, 9] _ (SlI.lits w2 [172, 2, 9] 5 (by decide)) (by decide)).mono ?_
 rw [rdN_a]
 rintro e w3 ⟨rfl, hw3⟩
 have hb3 : Below w2.heap.size w2 w3 := by rw [← hw3]; exact (Below.refl _ _).alloc (Nat.le_refl _) _
 clear hw3
 go_wp2_with fail
 refine (readnumber_any (some ⟨w3.heap.size, 0, none⟩) 2 2 [128, 0] _ (SlI.lits w3 [128, 0] 5 (by decide)) (by decide)).mono ?_
 rw [rdN_b]
 rintro e w4 ⟨rfl, hw4⟩
 have hb4 : Below w3.heap.size w3 w4 := by rw [← hw4]; exact (Below.refl _ _).alloc (Nat.le_refl _) _
 clear hw4
 have hbA : Below w2.heap.size w2 w4 := hb3.trans (hb4.mono hb3.size)
 have hbB : Below w1.heap.size w1 w4 := hb2.trans (hbA.mono hb2.size)
 obtain ⟨b1, o1, rfl, f1⟩ := (Hs1.out.below hbB (Nat.le_refl _)).at0 (by decide)
 obtain ⟨b2, o2, rfl, f2⟩ := (Hs2.out.below hbA (Nat.le_refl _)).at0 (by decide)
 have g1 : w4.cell? ⟨b1, o1, none⟩ = some (.int .u8 172) := f1 0 (by decide)
 have g2 : w4.cell? ⟨b1, o1 + 1, none⟩ = some (.int .u8 2) := f1 1 (by decide)
 have g3 : w4.cell? ⟨b2, o2, none⟩ = some (.int .u8 1) := f2 0 (by decide)
 have hB : Below w.heap.size w w4 := hb1.trans (hbB.mono hb1.size)
 clear f1 f2 hbA hbB hb1 hb2 hb3 hb4 H1 H2 Hs1 Hs2
 go_wp2
 go_ret
 exact ⟨rfl, hB⟩

end Go.Proofs.YtgfmdgiepomkiaaGreat
