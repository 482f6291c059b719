/- Walks: where a tile's rectangles begin; all rectangles in a row. -/
import Derived.Test.YtgfmdgiepomkiaaSmA
import Derived.Test.YtgfmdgiepomkiaaKi
namespace Go.Proofs.Ytgfmdgiepomkiaa
open Go.RowKit Go.Sort
attribute [local go_sem] Instr.index

set_option maxHeartbeats 4000000 in
theorem smfirst_any (a : Option Addr) (n c : Nat) (ts : List Tl) (q : Int) (w : World) (hx : SlTl w a n c ts) :
    Calls Try.prog 103 #[.slice a n c, .int .i64 q] w fun e w' => (∃ F : Int, e = .returned (.int .i64 F)) ∧ Below w.heap.size w w' := by
  have Hl := Lib.hid hx.sl.len
  have hmax := hx.sl.max
  have hle := hx.sl.le
  have HX := Lib.hid (fun W (hb : Below w.heap.size w W) => hx.below hb (Nat.le_refl _))
  clear hx
  obtain ⟨M, hM⟩ : ∃ M, min (max q 0) (n : Int) = M := ⟨_, rfl⟩
  have hM0 : 0 ≤ M ∧ M ≤ n := by omega
  go_enter Try.func103, Try.ntmps103
  go_wp2_with fail
  clear hM
  go_loopw [4, 11] (fun s4 s11 wr => ∃ (k : Nat) (v : Int), s4 = .int .i64 v ∧ s11 = .int .i64 k ∧ (k : Int) ≤ M ∧ Below w.heap.size w wr) (fun _ s11 _ => M.toNat - (intOf s11).toNat)
  case atStart => exact ⟨0, 0, rfl, rfl, by omega, Below.refl _ _⟩
  case round =>
    obtain ⟨k, v, rfl, rfl, hk, hb⟩ := hrel
    by_cases hkn : (k : Int) < M
    case neg =>
      go_wp2
      go_ret
      exact ⟨⟨v, rfl⟩, hb⟩
    have hkn2 : k < n := by omega
    have hI : (k : Int) < (n : Int) := by omega
    have wi1 : IntKind.i64.wrap ((k : Int) + 1) = ((k + 1 : Nat) : Int) := by rw [IntKind.wrap_i64]; omega
    obtain ⟨t, htk⟩ : ∃ t, ts[k]? = some t := ⟨_, List.getElem?_eq_getElem (by rw [Hl.out]; exact hkn2)⟩
    have hw := HX.out _ hb
    obtain ⟨B, off, rfl, _, _⟩ := hw.sl.at0 (by omega)
    have r2 := hw.sl.cells htk 2 _ rfl
    clear hw htk
    go_wp2
    go_roundw
    case rel => exact ⟨k + 1, _, rfl, by go_num, by omega, hb⟩
    case measure => simp [intOf]; omega
theorem info_rectL : (Try.prog.info? 55).map (fun i => (i.zero, i.size, i.bytes)) = some (some (.agg #[.int .i64 0, .int .i64 0, .int .i64 0, .int .i64 0, .int .i64 0, .slice none 0 0, .slice none 0 0]), 7, 88) := by kernel_rfl
theorem rcF7_oneL (x : RHd × Rc) : ∀ u ∈ rcF7 x, u.oneCell' = true := by
  intro u hu
  simp only [List.mem_cons, List.not_mem_nil, or_false] at hu
  rcases hu with rfl | rfl | rfl | rfl | rfl | rfl | rfl <;> rfl
def RsPost (w : World) (m : Nat) (e : Ending) (w' : World) : Prop := (∃ a k c rs, e = .returned (.slice a k c) ∧ SlRc w' a k c rs ∧ k ≤ m) ∧ Below w.heap.size w w'
set_option maxRecDepth 100000 in
set_option maxHeartbeats 4000000 in
theorem smrects_any (a : Option Addr) (n c : Nat) (ts : List Tl) (w : World) (hx : SlTl w a n c ts) (hn : n ≤ 9) (hr : ∀ t ∈ ts, t.rn ≤ 60) :
    Calls Try.prog 83 #[.slice a n c] w (RsPost w (60 * n)) := by
  have Hl := Lib.hid hx.sl.len
  have hmax := hx.sl.max
  have hle := hx.sl.le
  have HX := Lib.hid (fun W (hb : Below w.heap.size w W) => hx.below hb (Nat.le_refl _))
  have HR := Lib.hid hr
  have H0 : Hid (∀ t ∈ ts, ∀ x ∈ t.rs, RcSl w x.1 x.2) := fun t ht x hxx => (hx.each t ht).1.each x hxx
  clear hx hr
  go_enter Try.func83, Try.ntmps83
  go_wp2
  go_loopw [2, 7] (fun s2 s7 wr => ∃ (k : Nat) (va : Option Addr) (m vc : Nat) (rs : List (RHd × Rc)), s2 = .slice va m vc ∧ s7 = .int .i64 k ∧ k ≤ n ∧ m ≤ 60 * k ∧ Hid (OwnR rcF7 7 55 w.heap.size wr (.slice va m vc) m rs) ∧ Hid (∀ x ∈ rs, RcSl w x.1 x.2) ∧ Below w.heap.size w wr) (fun _ s7 _ => n - (intOf s7).toNat)
  case atStart => exact ⟨0, none, 0, 0, [], rfl, rfl, Nat.zero_le _, Nat.le_refl _, OwnR.nil _ _ _ _ _, (fun x hx => by cases hx), Below.refl _ _⟩
  case round =>
    obtain ⟨k, va, m, vc, rs, rfl, rfl, hk, hm, HO, HE, hb⟩ := hrel
    by_cases hkn : k < n
    case neg =>
      obtain rfl : k = n := by omega
      have hI : ¬ (k : Int) < (k : Int) := by omega
      go_wp2
      go_ret
      obtain ⟨va2, vc2, he, hs⟩ := OwnR.reads rcF7_len HO.out
      simp only [Value.slice.injEq, true_and] at he
      obtain ⟨rfl, rfl⟩ := he
      exact And.intro ⟨va, m, vc, rs, rfl, ⟨hs, fun x hxx => (HE.out x hxx).below hb (Nat.le_refl _)⟩, hm⟩ hb
    have hI : (k : Int) < (n : Int) := by omega
    have wi1 : IntKind.i64.wrap ((k : Int) + 1) = ((k + 1 : Nat) : Int) := by rw [IntKind.wrap_i64]; omega
    obtain ⟨t, htk⟩ : ∃ t, ts[k]? = some t := ⟨_, List.getElem?_eq_getElem (by rw [Hl.out]; exact hkn)⟩
    have htr := HR.out t (List.mem_of_getElem? htk)
    have hw := HX.out _ hb
    obtain ⟨B, off, rfl, _, _⟩ := hw.sl.at0 (by omega)
    have r0 := hw.sl.cells htk 0 _ rfl
    have r1 := hw.sl.cells htk 1 _ rfl
    have r2 := hw.sl.cells htk 2 _ rfl
    have r3 := hw.sl.cells htk 3 _ rfl
    simp only [Nat.add_zero] at r0
    have hTA : Below wr.heap.size wr (wr.alloc (.cells #[.int .i64 t.x, .int .i64 t.z, .slice t.ra t.rn t.rc, .slice t.da t.dn t.dc] 27 (0, 0))) := (Below.refl _ _).alloc (Nat.le_refl _) _
    have hTN := World.alloc_heap_new wr (.cells #[.int .i64 t.x, .int .i64 t.z, .slice t.ra t.rn t.rc, .slice t.da t.dn t.dc] 27 (0, 0))
    have HT := Lib.hid (((hw.one htk).1).below hTA (Nat.le_refl _))
    have HO3 := Lib.hid (HO.out.below hTA (Nat.le_refl _))
    have hb3 := hb.trans (hTA.mono hb.size)
    have hw0 : w.heap.size ≤ (wr.alloc (.cells #[.int .i64 t.x, .int .i64 t.z, .slice t.ra t.rn t.rc, .slice t.da t.dn t.dc] 27 (0, 0))).heap.size := hb3.size
    clear hw hTA HO
    have HTS : Hid (∀ x ∈ t.rs, RcSl w x.1 x.2) := H0.out t (List.mem_of_getElem? htk)
    clear htk
    have t0 := hcell (k := 0) (v := .int .i64 t.x) hTN rfl
    have t1 := hcell (k := 1) (v := .int .i64 t.z) hTN rfl
    have t2 := hcell (k := 2) (v := .slice t.ra t.rn t.rc) hTN rfl
    have t3 := hcell (k := 3) (v := .slice t.da t.dn t.dc) hTN rfl
    clear hTN
    go_wp2_with (at_builtin; refine wpList_appSA (f := rcF7) (sz := 7) (e := 55) _ rcF7_len rcF7_oneL rfl _ _ 24 rfl (.agg #[.int .i64 0, .int .i64 0, .int .i64 0, .int .i64 0, .int .i64 0, .slice none 0 0, .slice none 0 0]) 88 Try.underlying24 info_rectL rfl (by decide) w.heap.size _ m rs HO3.out (by rfl) t.ra t.rn t.rc t.rs HT.out.sl (by rfl) (by omega) (by omega) hw0 ?_; intro v1 w1 ho1 hb1; obtain ⟨ua, uc, rfl, _⟩ := OwnR.reads rcF7_len ho1)
    have hb4 := hb3.trans hb1
    have HE4 : Hid (∀ x ∈ rs ++ t.rs, RcSl w x.1 x.2) := fun x hx => by
      rcases List.mem_append.1 hx with hx | hx
      · exact HE.out x hx
      · exact HTS.out x hx
    have HO4 := Lib.hid ho1
    clear ho1
    go_wp2
    go_roundw
    case rel => exact ⟨k + 1, ua, m + t.rn, uc, rs ++ t.rs, rfl, by go_num, by omega, by omega, HO4, HE4, hb4⟩
    case measure => simp [intOf]; omega
end Go.Proofs.Ytgfmdgiepomkiaa
