/- Walks: the reader reads a number. -/
import Derived.Test.YtilhmlapbifbbaaRdP
import Derived.Deep.RegionHeld3
import Derived.Laws.Rows
namespace Go.Proofs.Ytilhmlapbifbbaa
open Go.RowKit Go.Sort

theorem SlI.from {k : IntKind} {w : World} {a : Option Addr} {n c : Nat} {xs : List Int} (h : SlI k w a n c xs) {m : Nat} (hm : m ≤ n) : SlI k w (if c = m then a else Option.map (fun x => x.add m) a) (n - m) (c - m) (xs.drop m) := by
  refine ⟨by rw [List.length_drop, h.len], by have := h.le; omega, by have := h.max; omega, ?_⟩
  rcases h.cell with h0 | ⟨b, off, ha, hc⟩
  · exact .inl (by omega)
  · by_cases hcm : c = m
    · exact .inl (by have := h.le; omega)
    · rw [if_neg hcm, ha]
      refine .inr ⟨b, off + m, by simp [Addr.add], fun i hi => ?_⟩
      have := hc (m + i) (by omega)
      rw [Nat.add_assoc, this]
      simp only [List.getD_eq_getElem?_getD, List.getElem?_drop]
/-- What is read stays, where a block is turned that is not its own. -/
theorem SlI.grown' {k : IntKind} {w w' : World} {a : Option Addr} {n c : Nat} {xs : List Int} (h : SlI k w a n c xs) {row : Option Nat} (hg : w.grownBy w' row) (hne : n = 0 ∨ ∀ ad, a = some ad → row ≠ some ad.block) : SlI k w' a n c xs := by
  rcases hne with h0 | hne
  · exact ⟨h.len, h.le, h.max, .inl h0⟩
  · exact h.grown hg hne
/-- A reader lies in block rb: what it reads, how far it is, whether something was wrong. -/
structure RdAt (T : TypeId) (f : Bool → Bool) (w : World) (rb : Nat) (a : Option Addr) (n c : Nat) (xs : List Int) (st : RS) : Prop where
  blk : w.heap[rb]? = some (.cells #[.slice a n c, .int .i64 st.1, .bool (f st.2)] T (0, 0))
  sl : SlI .u8 w a n c xs
  le : st.1 ≤ n
  ne : n = 0 ∨ ∀ ad, a = some ad → ad.block < rb
  small : n ≤ 131072
  byte : ∀ x ∈ xs, 0 ≤ x ∧ x ≤ 255
section
variable {T : TypeId} {f : Bool → Bool} {w w' : World} {rb : Nat} {a : Option Addr} {n c : Nat} {xs : List Int} {st : RS}
theorem RdAt.lt (h : RdAt T f w rb a n c xs st) : rb < w.heap.size := (Array.getElem?_eq_some_iff.1 h.blk).1
/-- Any block above the reader's may turn. -/
theorem RdAt.grown (h : RdAt T f w rb a n c xs st) {row : Option Nat} (hg : w.grownBy w' row) (h1 : ∀ j, row = some j → rb < j) : RdAt T f w' rb a n c xs st :=
  ⟨(hg.block rb h.lt (fun e => by have := h1 rb e.symm; omega)).trans h.blk, h.sl.grown' hg (h.ne.imp id fun q ad ha e => by have := h1 _ e; have := q ad ha; omega), h.le, h.ne, h.small, h.byte⟩
theorem grownBy_setCell (w : World) (b i : Nat) (v : Value) : w.grownBy (w.setCell ⟨b, i, none⟩ v) (some b) :=
  ⟨rfl, rfl, rfl, by simp, fun k hk hne => heap_setCell_other w _ k v (by intro h; exact hne (by rw [h]))⟩
theorem RdAt.neSet (h : RdAt T f w rb a n c xs st) : n = 0 ∨ ∀ ad, a = some ad → some rb ≠ some ad.block := h.ne.imp id fun q ad ha e => by have := q ad ha; cases e; omega
theorem RdAt.setAt (h : RdAt T f w rb a n c xs st) {m : Nat} (hm : m ≤ n) : RdAt T f (w.setCell ⟨rb, 1, none⟩ (.int .i64 m)) rb a n c xs (m, st.2) :=
  ⟨heap_setCell_same w rb 1 _ _ _ h.blk, h.sl.grown' (grownBy_setCell w rb 1 _) h.neSet, hm, h.ne, h.small, h.byte⟩
theorem RdAt.setBad (h : RdAt T f w rb a n c xs st) (b : Bool) : RdAt T f (w.setCell ⟨rb, 2, none⟩ (.bool (f b))) rb a n c xs (st.1, b) :=
  ⟨heap_setCell_same w rb 2 _ _ _ h.blk, h.sl.grown' (grownBy_setCell w rb 2 _) h.neSet, h.le, h.ne, h.small, h.byte⟩
end
theorem RdAt.drew {T : TypeId} {f : Bool → Bool} {w : World} {rb : Nat} {a : Option Addr} {n c : Nat} {xs : List Int} {st : RS} (h : RdAt T f w rb a n c xs st) : RdAt T f w.drew rb a n c xs st := ⟨h.blk, h.sl.drewN 1, h.le, h.ne, h.small, h.byte⟩
theorem _root_.Go.World.grownBy.drew {w w' : World} {row : Option Nat} (h : w.grownBy w' row) : w.grownBy w'.drew row := ⟨h.os, h.tape, h.output, h.size, h.block⟩
theorem blk_frozen {w : World} {b j : Nat} {vs : Array Value} {t : TypeId} (h : w.heap[b]? = some (.cells vs t (0, 0))) : w.frozen? ⟨b, j, none⟩ = false := by simp [World.frozen?, h]

set_option maxRecDepth 100000 in
set_option maxHeartbeats 2000000 in
theorem rnumber_any (w : World) (rb : Nat) (a : Option Addr) (n c : Nat) (xs : List Int) (st : RS) (h : RdAt 123 (fun b => b) w rb a n c xs st) :
    Calls Try.prog 82 #[.pointer (some ⟨rb, 0, none⟩)] w fun e w' => e = .returned (.int .i64 (rdNum xs st).1) ∧ RdAt 123 (fun b => b) w' rb a n c xs (rdNum xs st).2 ∧ w.grownBy w' (some rb) := by
  obtain ⟨st1, bad⟩ := st
  have Hh := Lib.hid h
  have hlen := h.sl.len
  have hle := h.le
  have hsm := h.small
  have hcn := h.sl.le
  have hcm := h.sl.max
  simp only at hle
  have c0 := cell_heap (k := 0) (v := .slice a n c) h.blk rfl
  have c1 := cell_heap (k := 1) (v := .int .i64 st1) h.blk rfl
  have c2 := cell_heap (k := 2) (v := .bool bad) h.blk rfl
  have hbyte := h.byte
  have hu := rdAt_used (xs.drop st1) 9 0 0
  rw [List.length_drop, hlen] at hu
  obtain ⟨⟨x, u, er⟩, hR⟩ : ∃ R, R = rdN (xs.drop st1) := ⟨_, rfl⟩
  have hu' : 0 ≤ u ∧ u ≤ ((n - st1 : Nat) : Int) := by
    have e1 : rdAt (xs.drop st1) 9 0 0 = (x, u, er) := hR.symm
    rw [e1] at hu
    exact hu
  obtain ⟨u, rfl⟩ : ∃ k : Nat, u = (k : Int) := ⟨u.toNat, by omega⟩
  have HN : Hid (rdNum xs (st1, bad) = if bad = true then (0, (st1, bad)) else if er ≠ 0 ∨ 4398046511104 < x then (0, (st1, true)) else (x, (st1 + u, false))) := by show _ = _; unfold rdNum; rw [← hR]; rfl
  have HR := Lib.hid (fun (a' : Option Addr) (n' c' : Nat) (h' : SlI .u8 w.drew a' n' c' (xs.drop st1)) => by
    have := readnumber_any a' n' c' _ w.drew h' (fun y hy => hbyte y (List.mem_of_mem_drop hy))
    rwa [← hR] at this)
  have Hsl := Lib.hid ((h.sl.drewN 1).from hle)
  have hI0 : (0 : Int) ≤ (st1 : Int) := by omega
  have hI1 : (st1 : Int) ≤ (n : Int) := by omega
  have hI2 : (st1 : Int) ≤ (c : Int) := by omega
  have frz : ∀ j, w.frozen? ⟨rb, j, none⟩ = false := fun j => blk_frozen h.blk
  have f1 := frz 1
  have f2 := frz 2
  clear hR hu frz h
  have Hs1 : Hid (SlI .u8 w.drew (if c = st1 then a else Option.map (fun x => x.add st1) a) (n - st1) (c - st1) (xs.drop st1)) := Hsl.out
  have Hs2 : Hid (c = st1 → ∀ n' c', n' = n - st1 → c' = c - st1 → SlI .u8 w.drew a n' c' (xs.drop st1)) := fun e n' c' h1 h2 => ⟨by rw [List.length_drop]; omega, by omega, by omega, .inl (by omega)⟩
  have Hs3 : Hid (¬ c = st1 → SlI .u8 w.drew (Option.map (fun x => x.add st1) a) (n - st1) (c - st1) (xs.drop st1)) := fun e => by have := Hs1.out; rwa [if_neg e] at this
  clear Hs1 Hsl
  go_enter Try.func82, Try.ntmps82
  go_wp2_with fail
  by_cases hcs : c = st1
  all_goals
    go_region_held3 (fun WW => WW.cell? ⟨rb, 0, none⟩ = some (.slice a n c) ∧ WW.cell? ⟨rb, 1, none⟩ = some (.int .i64 st1))
      (first
        | assumption
        | exact ⟨c0, c1⟩
        | fail)
      (first
        | (go_at_call 20; refine (HR.out _ _ _ (by first | exact Hs3.out hcs | exact Hs2.out hcs _ _ (by omega) (by omega))).mono ?_; rintro e wz ⟨rfl, rfl⟩)
        | fail)
    rename_i hH
    clear hH HR Hs2 Hs3
    cases bad with
    | true =>
      have HN' : Hid (rdNum xs (st1, true) = (0, (st1, true))) := HN.out
      have hw1 : (w.setCell ⟨rb, 2, none⟩ (.bool true)).cell? ⟨rb, 2, none⟩ = some (.bool true) := cell_heap (heap_setCell_same w rb 2 _ _ _ Hh.out.blk) rfl
      go_wp2
      go_ret
      rw [HN'.out]
      first | exact ⟨rfl, (Hh.out.setBad true).drew, (grownBy_setCell _ _ _ _).drew⟩ | (have q := (Hh.out.setBad true).drew; rw [hcs] at q; exact ⟨rfl, q, (grownBy_setCell _ _ _ _).drew⟩)
    | false =>
      by_cases her : er = 0
      rotate_left
      · have HN' : Hid (rdNum xs (st1, false) = (0, (st1, true))) := by show _ = _; rw [HN.out, if_neg (by simp), if_pos (.inl her)]
        have hne : (er != 0) = true := by simpa using her
        have hw1 : (w.setCell ⟨rb, 2, none⟩ (.bool true)).cell? ⟨rb, 2, none⟩ = some (.bool true) := cell_heap (heap_setCell_same w rb 2 _ _ _ Hh.out.blk) rfl
        go_wp2
        go_ret
        rw [HN'.out]
        first | exact ⟨rfl, (Hh.out.setBad true).drew, (grownBy_setCell _ _ _ _).drew⟩ | (have q := (Hh.out.setBad true).drew; rw [hcs] at q; exact ⟨rfl, q, (grownBy_setCell _ _ _ _).drew⟩)
      subst her
      by_cases hx : 4398046511104 < x
      · have HN' : Hid (rdNum xs (st1, false) = (0, (st1, true))) := by show _ = _; rw [HN.out, if_neg (by simp), if_pos (.inr hx)]
        have hw1 : (w.setCell ⟨rb, 2, none⟩ (.bool true)).cell? ⟨rb, 2, none⟩ = some (.bool true) := cell_heap (heap_setCell_same w rb 2 _ _ _ Hh.out.blk) rfl
        go_wp2
        go_ret
        rw [HN'.out]
        first | exact ⟨rfl, (Hh.out.setBad true).drew, (grownBy_setCell _ _ _ _).drew⟩ | (have q := (Hh.out.setBad true).drew; rw [hcs] at q; exact ⟨rfl, q, (grownBy_setCell _ _ _ _).drew⟩)
      · have HN' : Hid (rdNum xs (st1, false) = (x, (st1 + u, false))) := by show _ = _; rw [HN.out, if_neg (by simp), if_neg (by omega)]
        have hb1 := heap_setCell_same w rb 2 _ _ (.bool false) Hh.out.blk
        have hw1 : (w.setCell ⟨rb, 2, none⟩ (.bool false)).cell? ⟨rb, 2, none⟩ = some (.bool false) := cell_heap hb1 rfl
        have hw2 : (w.setCell ⟨rb, 2, none⟩ (.bool false)).cell? ⟨rb, 1, none⟩ = some (.int .i64 st1) := cell_heap hb1 rfl
        have fw2 : (w.setCell ⟨rb, 2, none⟩ (.bool false)).frozen? ⟨rb, 1, none⟩ = false := blk_frozen hb1
        have hsum : IntKind.i64.wrap ((st1 : Int) + (u : Int)) = ((st1 + u : Nat) : Int) := by rw [IntKind.wrap_i64]; omega
        have hsum2 : st1 + u ≤ n := by omega
        clear hb1
        go_wp2
        go_ret
        rw [HN'.out]
        first | exact ⟨rfl, ((Hh.out.setBad false).setAt hsum2).drew, ((grownBy_setCell _ _ _ _).trans (grownBy_setCell _ _ _ _)).drew⟩ | (have q := ((Hh.out.setBad false).setAt hsum2).drew; rw [hcs] at q; exact ⟨rfl, q, ((grownBy_setCell _ _ _ _).trans (grownBy_setCell _ _ _ _)).drew⟩)

end Go.Proofs.Ytilhmlapbifbbaa
