/- Readers: a number, a signed one, one up to a bound; over whatever is read. -/
import Derived.Test.YtgfmdgiepomkiaaGreatNumV
import Derived.Test.YtgfmdgiepomkiaaGreatGp
import Derived.Deep.RegionHeld3
import Derived.Laws.Rows
namespace Go.Proofs.YtgfmdgiepomkiaaGreat
open Go.RowKit Go.Sort
attribute [local go_sem] Instr.index

/-- How far one has read, and whether something was wrong. -/
abbrev RS := Nat × Bool
def rdNum (xs : List Int) (st : RS) : Int × RS :=
 if st.2 = true then (0, st)
 else if (rdN (xs.drop st.1)).2.2 ≠ 0 ∨ 4398046511104 < (rdN (xs.drop st.1)).1 then (0, (st.1, true))
 else ((rdN (xs.drop st.1)).1, (st.1 + (rdN (xs.drop st.1)).2.1.toNat, false))
def zag (n : Int) : Int := if n % 2 = 1 then -((n + 1) / 2) else n / 2
def rdSig (xs : List Int) (st : RS) : Int × RS := (zag (rdNum xs st).1, (rdNum xs st).2)
def rdUp (xs : List Int) (m : Int) (st : RS) : Int × RS := if (rdNum xs st).2.2 = true ∨ m < (rdNum xs st).1 then (0, ((rdNum xs st).2.1, true)) else rdNum xs st
def rdRows {α : Type} (one : RS → α × RS) : Nat → RS → List α × RS
 | 0, st => ([], st)
 | n + 1, st => if st.2 = true then ([], st) else ((one st).1 :: (rdRows one n (one st).2).1, (rdRows one n (one st).2).2)
def rdList {α : Type} (xs : List Int) (m : Int) (one : RS → α × RS) (st : RS) : List α × RS := rdRows one (rdUp xs m st).1.toNat (rdUp xs m st).2
theorem rdAt_used (xs : List Int) : ∀ (f i : Nat) (acc : Int), 0 ≤ (rdAt xs f i acc).2.1 ∧ (rdAt xs f i acc).2.1 ≤ xs.length := by
 intro f
 induction f with
 | zero => intro i acc; simp [rdAt]
 | succ f ih =>
  intro i acc
  rw [rdAt]
  split
  ·
   split
   ·
    split
    ·
     simp
    ·
     simp; omega
   ·
    exact ih _ _
  ·
   simp
theorem rdAt_nonneg (xs : List Int) (_hb : ∀ x ∈ xs, 0 ≤ x ∧ x ≤ 255) : ∀ (f i : Nat) (acc : Int), 0 ≤ acc → 0 ≤ (rdAt xs f i acc).1 := by
 intro f
 induction f with
 | zero => intro i acc _; simp [rdAt]
 | succ f ih =>
  intro i acc ha
  have h128 : (0 : Int) ≤ xs.getD i 0 % 128 * 128 ^ i := Int.mul_nonneg (Int.emod_nonneg _ (by decide)) (Int.pow_nonneg (by decide))
  rw [rdAt]
  split
  ·
   split
   ·
    split
    ·
     simp
    ·
     simp only; omega
   ·
    exact ih _ _ (by omega)
  ·
   simp
theorem rdNum_range {xs : List Int} {st : RS} (hb : ∀ x ∈ xs, 0 ≤ x ∧ x ≤ 255) : 0 ≤ (rdNum xs st).1 ∧ (rdNum xs st).1 ≤ 4398046511104 := by
 unfold rdNum
 split
 ·
  simp
 ·
  split
  ·
   simp
  ·
   rename_i h
   have := rdAt_nonneg (xs.drop st.1) (fun x hx => hb x (List.mem_of_mem_drop hx)) 9 0 0 (by decide)
   have e : rdN (xs.drop st.1) = rdAt (xs.drop st.1) 9 0 0 := rfl
   rw [e] at h ⊢
   simp only
   omega
theorem zag_bits (n : Int) (h0 : 0 ≤ n) (h1 : n ≤ 4398046511104) : bits .xor .i64 (n / 2) (-(n % 2)) = zag n := by
 unfold zag
 by_cases h : n % 2 = 1
 ·
  rw [if_pos h, h, i64_xor_m1 _ (by omega) (by omega)]
  omega
 ·
  have h2 : n % 2 = 0 := by omega
  rw [if_neg h, h2, show (-0 : Int) = 0 from rfl, i64_xor_0 _ (by omega) (by omega)]

theorem SlI.from {k : IntKind} {w : World} {a : Option Addr} {n c : Nat} {xs : List Int} (h : SlI k w a n c xs) {m : Nat} (hm : m ≤ n) : SlI k w (if c = m then a else Option.map (fun x => x.add m) a) (n - m) (c - m) (xs.drop m) := by
 refine ⟨by rw [List.length_drop, h.len], by have := h.le; omega, by have := h.max; omega, ?_⟩
 rcases h.cell with h0 | ⟨b, off, ha, hc⟩
 ·
  exact .inl (by omega)
 ·
  by_cases hcm : c = m
  ·
   exact .inl (by have := h.le; omega)
  ·
   rw [if_neg hcm, ha]
   refine .inr ⟨b, off + m, by simp [Addr.add], fun i hi => ?_⟩
   have := hc (m + i) (by omega)
   rw [Nat.add_assoc, this]
   simp only [List.getD_eq_getElem?_getD, List.getElem?_drop]
/-- What is read stays, where a block is turned that is not its own. -/
theorem SlI.grown' {k : IntKind} {w w' : World} {a : Option Addr} {n c : Nat} {xs : List Int} (h : SlI k w a n c xs) {row : Option Nat} (hg : w.grownBy w' row) (hne : n = 0 ∨ ∀ ad, a = some ad → row ≠ some ad.block) : SlI k w' a n c xs := by
 rcases hne with h0 | hne
 ·
  exact ⟨h.len, h.le, h.max, .inl h0⟩
 ·
  exact h.grown hg hne
/-- A reader lies in block rb: what it reads, how far it is, whether something was wrong. -/
structure RdAt (T : TypeId) (f : Bool → Bool) (w : World) (rb : Nat) (a : Option Addr) (n c : Nat) (xs : List Int) (st : RS) : Prop where
 blk : w.heap[rb]? = some (.cells #[.slice a n c, .int .i64 st.1, .bool (f st.2)] T (0, 0))
 sl : SlI .u8 w a n c xs
 le : st.1 ≤ n
 ne : n = 0 ∨ ∀ ad, a = some ad → ad.block < rb
 small : n ≤ 131072
 byte : ∀ x ∈ xs, 0 ≤ x ∧ x ≤ 255
section
variable {T : TypeId} {f : Bool → Bool} {w w' : World} {rb : Nat} {a : Option Addr} {n c : Nat} {xs : List Int} {st : RS}
theorem RdAt.lt (h : RdAt T f w rb a n c xs st) : rb < w.heap.size := (Array.getElem?_eq_some_iff.1 h.blk).1
/-- Any block above the reader's may turn. -/
theorem RdAt.grown (h : RdAt T f w rb a n c xs st) {row : Option Nat} (hg : w.grownBy w' row) (h1 : ∀ j, row = some j → rb < j) : RdAt T f w' rb a n c xs st :=
 ⟨(hg.block rb h.lt (fun e => by have := h1 rb e.symm; omega)).trans h.blk, h.sl.grown' hg (h.ne.imp id fun q ad ha e => by have := h1 _ e; have := q ad ha; omega), h.le, h.ne, h.small, h.byte⟩
theorem grownBy_setCell (w : World) (b i : Nat) (v : Value) : w.grownBy (w.setCell ⟨b, i, none⟩ v) (some b) :=
 ⟨rfl, rfl, rfl, by simp, fun k hk hne => heap_setCell_other w _ k v (by intro h; exact hne (by rw [h]))⟩
theorem RdAt.neSet (h : RdAt T f w rb a n c xs st) : n = 0 ∨ ∀ ad, a = some ad → some rb ≠ some ad.block := h.ne.imp id fun q ad ha e => by have := q ad ha; cases e; omega
theorem RdAt.setAt (h : RdAt T f w rb a n c xs st) {m : Nat} (hm : m ≤ n) : RdAt T f (w.setCell ⟨rb, 1, none⟩ (.int .i64 m)) rb a n c xs (m, st.2) :=
 ⟨heap_setCell_same w rb 1 _ _ _ h.blk, h.sl.grown' (grownBy_setCell w rb 1 _) h.neSet, hm, h.ne, h.small, h.byte⟩
theorem RdAt.setBad (h : RdAt T f w rb a n c xs st) (b : Bool) : RdAt T f (w.setCell ⟨rb, 2, none⟩ (.bool (f b))) rb a n c xs (st.1, b) :=
 ⟨heap_setCell_same w rb 2 _ _ _ h.blk, h.sl.grown' (grownBy_setCell w rb 2 _) h.neSet, h.le, h.ne, h.small, h.byte⟩
end
theorem RdAt.drew {T : TypeId} {f : Bool → Bool} {w : World} {rb : Nat} {a : Option Addr} {n c : Nat} {xs : List Int} {st : RS} (h : RdAt T f w rb a n c xs st) : RdAt T f w.drew rb a n c xs st := ⟨h.blk, h.sl.drewN 1, h.le, h.ne, h.small, h.byte⟩
theorem _root_.Go.World.grownBy.drew {w w' : World} {row : Option Nat} (h : w.grownBy w' row) : w.grownBy w'.drew row := ⟨h.os, h.tape, h.output, h.size, h.block⟩
theorem blk_frozen {w : World} {b j : Nat} {vs : Array Value} {t : TypeId} (h : w.heap[b]? = some (.cells vs t (0, 0))) : w.frozen? ⟨b, j, none⟩ = false := by simp [World.frozen?, h]

set_option maxRecDepth 100000 in
set_option maxHeartbeats 2000000 in
theorem rnumber_any (w : World) (rb : Nat) (a : Option Addr) (n c : Nat) (xs : List Int) (st : RS) (h : RdAt 73 (fun b => b) w rb a n c xs st) :
  Calls Tryz.prog 22 #[.pointer (some ⟨rb, 0, none⟩)] w fun e w' => e = .returned (.int .i64 (rdNum xs st).1) ∧ RdAt 73 (fun b => b) w' rb a n c xs (rdNum xs st).2 ∧ w.grownBy w' (some rb) := by
 obtain ⟨st1, bad⟩ := st
 have Hh := Lib.hid h
 have hlen := h.sl.len
 have hle := h.le
 have hsm := h.small
 have hcn := h.sl.le
 have hcm := h.sl.max
 simp only at hle
 have c0 := hcell (k := 0) (v := .slice a n c) h.blk rfl
 have c1 := hcell (k := 1) (v := .int .i64 st1) h.blk rfl
 have c2 := hcell (k := 2) (v := .bool bad) h.blk rfl
 have hbyte := h.byte
 have hu := rdAt_used (xs.drop st1) 9 0 0
 rw [List.length_drop, hlen] at hu
 obtain ⟨⟨x, u, er⟩, hR⟩ : ∃ R, R = rdN (xs.drop st1) := ⟨_, rfl⟩
 have hu' : 0 ≤ u ∧ u ≤ ((n - st1 : Nat) : Int) := by
  have e1 : rdAt (xs.drop st1) 9 0 0 = (x, u, er) := hR.symm
  rw [e1] at hu
  exact hu
 obtain ⟨u, rfl⟩ : ∃ k : Nat, u = (k : Int) := ⟨u.toNat, by omega⟩
 have HN : Hid (rdNum xs (st1, bad) = if bad = true then (0, (st1, bad)) else if er ≠ 0 ∨ 4398046511104 < x then (0, (st1, true)) else (x, (st1 + u, false))) := by show _ = _; unfold rdNum; rw [← hR]; rfl
 have HR := Lib.hid (fun (a' : Option Addr) (n' c' : Nat) (h' : SlI .u8 w.drew a' n' c' (xs.drop st1)) => by
  have := readnumber_any a' n' c' _ w.drew h' (fun y hy => hbyte y (List.mem_of_mem_drop hy))
  rwa [← hR] at this)
 have Hsl := Lib.hid ((h.sl.drewN 1).from hle)
 have hI0 : (0 : Int) ≤ (st1 : Int) := by omega
 have hI1 : (st1 : Int) ≤ (n : Int) := by omega
 have hI2 : (st1 : Int) ≤ (c : Int) := by omega
 have frz : ∀ j, w.frozen? ⟨rb, j, none⟩ = false := fun j => blk_frozen h.blk
 have f1 := frz 1
 have f2 := frz 2
 clear hR hu frz h
 have Hs1 : Hid (SlI .u8 w.drew (if c = st1 then a else Option.map (fun x => x.add st1) a) (n - st1) (c - st1) (xs.drop st1)) := Hsl.out
 have Hs2 : Hid (c = st1 → ∀ n' c', n' = n - st1 → c' = c - st1 → SlI .u8 w.drew a n' c' (xs.drop st1)) := fun e n' c' h1 h2 => ⟨by rw [List.length_drop]; omega, by omega, by omega, .inl (by omega)⟩
 have Hs3 : Hid (¬ c = st1 → SlI .u8 w.drew (Option.map (fun x => x.add st1) a) (n - st1) (c - st1) (xs.drop st1)) := fun e => by have := Hs1.out; rwa [if_neg e] at this
 clear Hs1 Hsl
 go_enter Tryz.func22, Tryz.ntmps22
 go_wp2_with fail
 by_cases hcs : c = st1
 all_goals
  go_region_held3 (fun WW => WW.cell? ⟨rb, 0, none⟩ = some (.slice a n c) ∧ WW.cell? ⟨rb, 1, none⟩ = some (.int .i64 st1))
   (first
    | assumption
    | exact ⟨c0, c1⟩
    | fail)
   (first
    | (go_at_call 17; refine (HR.out _ _ _ (by first | exact Hs3.out hcs | exact Hs2.out hcs _ _ (by omega) (by omega))).mono ?_; rintro e wz ⟨rfl, rfl⟩)
    | fail)
  rename_i hH
  clear hH HR Hs2 Hs3
  cases bad with
  | true =>
   have HN' : Hid (rdNum xs (st1, true) = (0, (st1, true))) := HN.out
   have hw1 : (w.setCell ⟨rb, 2, none⟩ (.bool true)).cell? ⟨rb, 2, none⟩ = some (.bool true) := hcell (heap_setCell_same w rb 2 _ _ _ Hh.out.blk) rfl
   go_wp2
   go_ret
   rw [HN'.out]
   first | exact ⟨rfl, (Hh.out.setBad true).drew, (grownBy_setCell _ _ _ _).drew⟩ | (have q := (Hh.out.setBad true).drew; rw [hcs] at q; exact ⟨rfl, q, (grownBy_setCell _ _ _ _).drew⟩)
  | false =>
   by_cases her : er = 0
   rotate_left
   ·
    have HN' : Hid (rdNum xs (st1, false) = (0, (st1, true))) := by show _ = _; rw [HN.out, if_neg (by simp), if_pos (.inl her)]
    have hne : (er != 0) = true := by simpa using her
    have hw1 : (w.setCell ⟨rb, 2, none⟩ (.bool true)).cell? ⟨rb, 2, none⟩ = some (.bool true) := hcell (heap_setCell_same w rb 2 _ _ _ Hh.out.blk) rfl
    go_wp2
    go_ret
    rw [HN'.out]
    first | exact ⟨rfl, (Hh.out.setBad true).drew, (grownBy_setCell _ _ _ _).drew⟩ | (have q := (Hh.out.setBad true).drew; rw [hcs] at q; exact ⟨rfl, q, (grownBy_setCell _ _ _ _).drew⟩)
   subst her
   by_cases hx : 4398046511104 < x
   ·
    have HN' : Hid (rdNum xs (st1, false) = (0, (st1, true))) := by show _ = _; rw [HN.out, if_neg (by simp), if_pos (.inr hx)]
    have hw1 : (w.setCell ⟨rb, 2, none⟩ (.bool true)).cell? ⟨rb, 2, none⟩ = some (.bool true) := hcell (heap_setCell_same w rb 2 _ _ _ Hh.out.blk) rfl
    go_wp2
    go_ret
    rw [HN'.out]
    first | exact ⟨rfl, (Hh.out.setBad true).drew, (grownBy_setCell _ _ _ _).drew⟩ | (have q := (Hh.out.setBad true).drew; rw [hcs] at q; exact ⟨rfl, q, (grownBy_setCell _ _ _ _).drew⟩)
   ·
    have HN' : Hid (rdNum xs (st1, false) = (x, (st1 + u, false))) := by show _ = _; rw [HN.out, if_neg (by simp), if_neg (by omega)]
    have hb1 := heap_setCell_same w rb 2 _ _ (.bool false) Hh.out.blk
    have hw1 : (w.setCell ⟨rb, 2, none⟩ (.bool false)).cell? ⟨rb, 2, none⟩ = some (.bool false) := hcell hb1 rfl
    have hw2 : (w.setCell ⟨rb, 2, none⟩ (.bool false)).cell? ⟨rb, 1, none⟩ = some (.int .i64 st1) := hcell hb1 rfl
    have fw2 : (w.setCell ⟨rb, 2, none⟩ (.bool false)).frozen? ⟨rb, 1, none⟩ = false := blk_frozen hb1
    have hsum : IntKind.i64.wrap ((st1 : Int) + (u : Int)) = ((st1 + u : Nat) : Int) := by rw [IntKind.wrap_i64]; omega
    have hsum2 : st1 + u ≤ n := by omega
    clear hb1
    go_wp2
    go_ret
    rw [HN'.out]
    first | exact ⟨rfl, ((Hh.out.setBad false).setAt hsum2).drew, ((grownBy_setCell _ _ _ _).trans (grownBy_setCell _ _ _ _)).drew⟩ | (have q := ((Hh.out.setBad false).setAt hsum2).drew; rw [hcs] at q; exact ⟨rfl, q, ((grownBy_setCell _ _ _ _).trans (grownBy_setCell _ _ _ _)).drew⟩)

theorem and1 (v : Int) (h0 : 0 ≤ v) (h1 : v ≤ 4398046511104) : bits .and .i64 v 1 = v % 2 := bits_mask .i64 63 (by decide) wraps_i64 1 (by decide) v h0 (by omega)
theorem wrap_neg (v : Int) : IntKind.i64.wrap (-(v % 2)) = -(v % 2) := by rw [IntKind.wrap_i64]; omega
section
variable {w W W' : World} {row : Option Nat}
theorem gb_set (h : w.grownBy W row) {b : Nat} (hb : w.heap.size ≤ b) (i : Nat) (v : Value) : w.grownBy (W.setCell ⟨b, i, none⟩ v) row :=
 ⟨h.os, h.tape, h.output, by have := h.size; simpa using this, fun k hk hne => (heap_setCell_other W _ k v (by show k ≠ b; omega)).trans (h.block k hk hne)⟩
theorem gb_alloc (h : w.grownBy W row) (o : Obj) : w.grownBy (W.alloc o) row := h.trans (World.grownBy_alloc W o row)
end
section
variable {T : TypeId} {f : Bool → Bool} {w w' : World} {rb : Nat} {a : Option Addr} {n c : Nat} {xs : List Int} {st : RS}
theorem RdAt.set (h : RdAt T f w rb a n c xs st) {b : Nat} (hb : rb < b) (i : Nat) (v : Value) : RdAt T f (w.setCell ⟨b, i, none⟩ v) rb a n c xs st := h.grown (grownBy_setCell w b i v) (fun j hj => by cases hj; exact hb)
theorem RdAt.alloc (h : RdAt T f w rb a n c xs st) (o : Obj) : RdAt T f (w.alloc o) rb a n c xs st := h.grown (World.grownBy_alloc w o none) (fun j hj => by cases hj)
/-- A block that is not the reader's stays. -/
theorem blk_keep {b : Nat} {u : Obj} (hg : w.grownBy w' (some rb)) (hb : w.heap[b]? = some u) (hne : rb < b) : w'.heap[b]? = some u := (hg.block b (Array.getElem?_eq_some_iff.1 hb).1 (by intro e; cases e; omega)).trans hb
end

set_option maxRecDepth 100000 in
set_option maxHeartbeats 2000000 in
theorem rsigned_any (w : World) (rb : Nat) (a : Option Addr) (n c : Nat) (xs : List Int) (st : RS) (h : RdAt 73 (fun b => b) w rb a n c xs st) :
  Calls Tryz.prog 44 #[.pointer (some ⟨rb, 0, none⟩)] w fun e w' => e = .returned (.int .i64 (rdSig xs st).1) ∧ RdAt 73 (fun b => b) w' rb a n c xs (rdSig xs st).2 ∧ w.grownBy w' (some rb) := by
 have H := Lib.hid (rnumber_any w rb a n c xs st h)
 have hr := rdNum_range (st := st) h.byte
 unfold rdSig
 clear h
 obtain ⟨⟨v, st'⟩, hR⟩ : ∃ r, r = rdNum xs st := ⟨_, rfl⟩
 rw [← hR] at H hr ⊢
 clear hR
 have h1 := and1 v hr.1 hr.2
 have h2 := wrap_neg v
 have h3 := zag_bits v hr.1 hr.2
 clear hr
 go_enter Tryz.func44, Tryz.ntmps44
 go_wp2_with fail
 refine H.out.mono ?_
 rintro e w1 ⟨rfl, hA, hg⟩
 have HA := Lib.hid hA
 have Hg := Lib.hid hg
 clear hA hg
 go_wp2
 go_ret
 exact ⟨rfl, HA.out, Hg.out⟩


set_option maxRecDepth 100000 in
set_option maxHeartbeats 2000000 in
theorem rup_any (m : Int) (w : World) (rb : Nat) (a : Option Addr) (n c : Nat) (xs : List Int) (st : RS) (h : RdAt 73 (fun b => b) w rb a n c xs st) :
  Calls Tryz.prog 43 #[.pointer (some ⟨rb, 0, none⟩), .int .i64 m] w fun e w' => e = .returned (.int .i64 (rdUp xs m st).1) ∧ RdAt 73 (fun b => b) w' rb a n c xs (rdUp xs m st).2 ∧ w.grownBy w' (some rb) := by
 have H := Lib.hid (rnumber_any w rb a n c xs st h)
 unfold rdUp
 clear h
 obtain ⟨⟨v, s1, bad⟩, hR⟩ : ∃ r, r = rdNum xs st := ⟨_, rfl⟩
 rw [← hR] at H ⊢
 clear hR
 obtain ⟨V, hV⟩ : ∃ V : Int × RS, V = if bad = true ∨ m < v then (0, (s1, true)) else (v, (s1, bad)) := ⟨_, rfl⟩
 rw [← hV]
 have HV := Lib.hid hV
 clear hV
 go_enter Tryz.func43, Tryz.ntmps43
 go_wp2_with fail
 refine H.out.mono ?_
 rintro e w1 ⟨rfl, hA, hg⟩
 have c2 := hcell (k := 2) (v := .bool bad) hA.blk rfl
 have f2 := blk_frozen (j := 2) hA.blk
 have HA := Lib.hid hA
 have Hg := Lib.hid hg
 have hB := fun b : Bool => heap_setCell_same w1 rb 2 _ _ (.bool b) hA.blk
 have hw1 := hcell (k := 2) (v := .bool true) (hB true) rfl
 have hw0 := hcell (k := 2) (v := .bool false) (hB false) rfl
 clear hA hg hB
 cases bad with
 | true =>
  have HW : Hid (V = (0, (s1, true))) := by show _ = _; rw [HV.out, if_pos (.inl rfl)]
  clear HV
  go_wp2
  go_ret
  rw [HW.out]
  exact ⟨rfl, HA.out.setBad true, Hg.out.trans (grownBy_setCell _ _ _ _)⟩
 | false =>
  by_cases hm : m < v
  ·
   have HW : Hid (V = (0, (s1, true))) := by show _ = _; rw [HV.out, if_pos (.inr hm)]
   have dm : decide (m < v) = true := decide_eq_true hm
   clear HV
   go_wp2
   go_ret
   rw [HW.out]
   exact ⟨rfl, HA.out.setBad true, Hg.out.trans (grownBy_setCell _ _ _ _)⟩
  ·
   have HW : Hid (V = (v, (s1, false))) := by show _ = _; rw [HV.out, if_neg (by simp [hm])]
   have dm : decide (m < v) = false := decide_eq_false hm
   clear HV
   go_wp2
   go_ret
   rw [HW.out]
   exact ⟨rfl, HA.out.setBad false, Hg.out.trans (grownBy_setCell _ _ _ _)⟩


theorem rdUp_range {xs : List Int} {st : RS} {m : Int} (hm : 0 ≤ m) (hb : ∀ x ∈ xs, 0 ≤ x ∧ x ≤ 255) : 0 ≤ (rdUp xs m st).1 ∧ (rdUp xs m st).1 ≤ m := by
 unfold rdUp
 have := rdNum_range (st := st) hb
 split
 ·
  exact ⟨by simp, by simpa using hm⟩
 ·
  rename_i h
  exact ⟨this.1, by omega⟩
theorem rows_nil {α : Type} {one : RS → α × RS} {j : Nat} {s : RS} (h : j = 0 ∨ s.2 = true) : rdRows one j s = ([], s) := by
 rcases h with h | h
 ·
  subst h; rfl
 ·
  cases j <;> simp [rdRows, h]
theorem rows_cons {α : Type} {one : RS → α × RS} {j : Nat} {s : RS} (h : s.2 = false) : rdRows one (j + 1) s = ((one s).1 :: (rdRows one j (one s).2).1, (rdRows one j (one s).2).2) := by simp [rdRows, h]


end Go.Proofs.YtgfmdgiepomkiaaGreat
