/- Walks: the document's Open. -/
import Derived.Test.YtilhmlapbifbbaaEach2
namespace Go.Proofs.Ytilhmlapbifbbaa
open Go.RowKit

/-- A config lies in block B. -/
def CfgAt (B : Nat) (cf : Cfg) (w : World) : Prop := ∀ j v, (cfgL cf)[j]? = some v → w.cell? ⟨B, j, none⟩ = some v
theorem CfgAt.below {B C : Nat} {cf : Cfg} {w w' : World} (h : CfgAt B cf w) (hb : Below C w w') (hB : B < C) : CfgAt B cf w' :=
  fun j v hj => (hb.cell (p := ⟨B, j, none⟩) hB).trans (h j v hj)
theorem CfgAt.new (cf : Cfg) (w : World) (t : TypeId) : CfgAt w.heap.size cf (w.alloc (.cells (cfgL cf).toArray t)) := by
  intro j v hj
  rw [World.cell?_alloc_at _ _ _ _ rfl]
  simpa using hj

def openE (cf : Cfg) (xs : List Spn) : Int := if cfgOk cf then (if spOk xs then 0 else 2) else 20
def openKs (cf : Cfg) (xs : List Spn) : List Int := if cfgOk cf && spOk xs then (eachL cf xs).map fun p => (p.1 : Int) else []
def upKs (cf : Cfg) (xs : List Spn) (k : Nat) : List Int := (eachUp cf xs k).map fun p => (p.1 : Int)
theorem upKs_yes {cf : Cfg} {xs : List Spn} {k : Nat} (h : openAt cf xs k = true) : upKs cf xs (k + 1) = upKs cf xs k ++ [(k : Int)] := by simp [upKs, eachUp_yes h]
theorem upKs_no {cf : Cfg} {xs : List Spn} {k : Nat} (h : openAt cf xs k = false) : upKs cf xs (k + 1) = upKs cf xs k := by simp [upKs, eachUp_no h]
theorem upKs_len (cf : Cfg) (xs : List Spn) (k : Nat) : (upKs cf xs k).length ≤ k := by simpa [upKs] using eachUp_len cf xs k
theorem openKs_ok {cf : Cfg} {xs : List Spn} (h1 : cfgOk cf = true) (h2 : spOk xs = true) : openKs cf xs = upKs cf xs xs.length := by simp [openKs, h1, h2, upKs, eachL]
/-- What Open answers. -/
def OpenPost (cf : Cfg) (xs : List Spn) (w : World) (e : Ending) (w' : World) : Prop :=
  ∃ v, e = .returned (.tuple #[v, .int .i64 (openE cf xs)]) ∧ OwnI .i64 3 w.heap.size w' v (openKs cf xs).length (openKs cf xs) ∧ Below w.heap.size w w'

theorem info_i64 : (Try.prog.info? 3).map (fun i => (i.zero, i.size, i.bytes)) = some (some (.int .i64 0), 1, 8) := by kernel_rfl

theorem ret_tup2 {u v : Value} {k : IntKind} {x y : Int} (h1 : u = v) (h2 : x = y) : Ending.returned (.tuple #[u, .int k x]) = .returned (.tuple #[v, .int k y]) := by rw [h1, h2]
theorem OwnI.mono {k : IntKind} {e : TypeId} {B B' : Nat} {w : World} {v : Value} {n : Nat} {xs : List Int} (h : OwnI k e B w v n xs) (hB : B' ≤ B) : OwnI k e B' w v n xs := by
  refine ⟨h.1, ?_⟩
  rcases h.2 with h0 | ⟨g, cap, cur, h2, h3, h4⟩
  · exact .inl h0
  · exact .inr ⟨g, cap, cur, h2, Nat.le_trans hB h3, h4⟩

set_option maxHeartbeats 400000 in
theorem refopen_any (cf : Cfg) (a : Option Addr) (n c : Nat) (xs : List Spn) (w : World) (hx : SlSp w a n c xs) :
    Calls Try.prog 27 #[cfgV cf, .slice a n c] w (OpenPost cf xs w) := by
  have Hl := Lib.hid hx.len
  have hmax := hx.max
  have hle := hx.le
  have Hx := Lib.hid hx; clear hx
  have hcc := cfgE_eq cf
  have hsp := spE_eq xs
  obtain ⟨clear, climb, height, rise, run, cw, cd⟩ := cf
  show Calls Try.prog _ #[.agg #[.int .i64 clear, .int .i64 climb, .int .i64 height, .int .i64 rise, .int .i64 run, .int .i64 cw, .int .i64 cd], .slice a n c] w _
  rcases hcc with ⟨h1, h2⟩ | ⟨h1, h2⟩
  · have HC1 := Lib.hid h1
    have HC2 := Lib.hid h2
    clear h1 h2
    rcases hsp with ⟨h1, h2⟩ | ⟨h1, h2⟩
    · have HS1 := Lib.hid h1
      have HS2 := Lib.hid h2
      clear h1 h2
      have hn8 : n ≤ 8 := by have := HS2.out; simp [spOk, Hl.out] at this; omega
      go_enter Try.func27, Try.ntmps27
      go_wp2_with fail
      refine (refcfgcheck_any ⟨clear, climb, height, rise, run, cw, cd⟩ _).mono ?_
      rw [HC1.out]
      rintro e w1 ⟨rfl, hb1⟩
      have hB1 : Below w.heap.size w w1 := ((Below.refl _ _).alloc (Nat.le_refl _) _).trans (hb1.mono (by simp))
      go_wp2_with fail
      refine (refspancheck_any a n c xs _ (Hx.out.below hB1 (Nat.le_refl _))).mono ?_
      rw [HS1.out]
      rintro e w2 ⟨rfl, hb2⟩
      have hB2 : Below w.heap.size w w2 := hB1.trans (hb2.mono hB1.size)
      have HCA : Hid (CfgAt w.heap.size ⟨clear, climb, height, rise, run, cw, cd⟩ w2) := ((CfgAt.new ⟨clear, climb, height, rise, run, cw, cd⟩ w 32).below hb1 (by simp)).below hb2 (by have := hb1.size; simp at this; omega)
      have hs2 : w.heap.size + 1 ≤ w2.heap.size := by have := hb1.size; have := hb2.size; simp at *; omega
      clear hb1 hb2
      go_wp2
      go_loopw [7, 8] (fun v i wr => ∃ k : Nat, i = .int .i64 k ∧ k ≤ n ∧ OwnI .i64 3 (w.heap.size + 1) wr v (upKs ⟨clear, climb, height, rise, run, cw, cd⟩ xs k).length (upKs ⟨clear, climb, height, rise, run, cw, cd⟩ xs k) ∧ Below (w.heap.size + 1) w2 wr) (fun _ i _ => n - (intOf i).toNat)
      case atStart => exact ⟨0, rfl, Nat.zero_le _, OwnI.nil _ _ _ _, Below.refl _ _⟩
      case round =>
        obtain ⟨k, rfl, hk, hown, hbr⟩ := hrel
        have hkl := upKs_len ⟨clear, climb, height, rise, run, cw, cd⟩ xs k
        have hBr : Below w.heap.size w wr := hB2.trans (hbr.mono (by omega))
        by_cases hlt : k < n
        · obtain ⟨b, off, rfl, hbl, hc⟩ := (Hx.out.below hBr (Nat.le_refl _)).at0 (by omega)
          obtain ⟨x, hxk⟩ : ∃ x, xs[k]? = some x := ⟨_, List.getElem?_eq_getElem (by rw [Hl.out]; exact hlt)⟩
          have c3 := (SlSp.cells hc hxk).2.2
          have ho : openAt ⟨clear, climb, height, rise, run, cw, cd⟩ xs k = (x.walk && fitsI ⟨clear, climb, height, rise, run, cw, cd⟩ xs k) := by simp [openAt, hxk]
          have hltI : (k : Int) < (n : Int) := by omega
          obtain ⟨xlo, xhi, xwk⟩ := x
          simp only at c3 ho
          clear hc hxk
          have HCr := Lib.hid (HCA.out.below hbr (Nat.lt_succ_self _))
          cases xwk with
          | false =>
            have Ho : Hid (openAt ⟨clear, climb, height, rise, run, cw, cd⟩ xs k = false) := by show _ = _; rw [ho]; rfl
            clear ho
            go_wp2
            go_roundw
            case rel => exact ⟨k + 1, by go_num, by omega, by rw [upKs_no Ho.out]; exact hown, hbr⟩
            case measure => simp [intOf]; omega
          | true =>
            rw [Bool.true_and] at ho
            obtain ⟨t, ht⟩ : ∃ t, t = fitsI ⟨clear, climb, height, rise, run, cw, cd⟩ xs k := ⟨_, rfl⟩
            rw [← ht] at ho
            have Ho := Lib.hid ho
            have Ht := Lib.hid ht
            clear ho ht
            have f0 := HCr.out 0 _ rfl
            have f1 := HCr.out 1 _ rfl
            have f2 := HCr.out 2 _ rfl
            have f3 := HCr.out 3 _ rfl
            have f4 := HCr.out 4 _ rfl
            have f5 := HCr.out 5 _ rfl
            have f6 := HCr.out 6 _ rfl
            simp only at f0 f1 f2 f3 f4 f5 f6
            go_wp2_with fail
            refine (reffits_any ⟨clear, climb, height, rise, run, cw, cd⟩ (some ⟨b, off, none⟩) n c xs k _ (Hx.out.below hBr (Nat.le_refl _))).mono ?_
            rw [← Ht.out]
            rintro e w3 ⟨rfl, hb3⟩
            clear f0 f1 f2 f3 f4 f5 f6
            have hown3 : OwnI .i64 3 (w.heap.size + 1) w3 _ (upKs ⟨clear, climb, height, rise, run, cw, cd⟩ xs k).length (upKs ⟨clear, climb, height, rise, run, cw, cd⟩ xs k) := hown.below hb3 (Nat.le_refl _)
            have hbr3 := hbr.trans (hb3.mono (Nat.le_trans hs2 hbr.size))
            have hs3 := hbr3.size
            cases t with
            | false =>
              go_wp2
              go_roundw
              case rel => exact ⟨k + 1, by go_num, by omega, by rw [upKs_no Ho.out]; exact hown3, hbr3⟩
              case measure => simp [intOf]; omega
            | true =>
              clear hown
              go_wp2_with (at_builtin; refine wpList_app1 _ rfl _ _ 36 rfl (w.heap.size + 1) 3 .i64 8 Try.underlying36 info_i64 _ _ _ (k : Int) _ hown3 rfl rfl ?_ ?_ ?_ ?_)
              · omega
              · omega
              · omega
              intro v' w4 h1 h2
              have hb4 : Below (w.heap.size + 1) w2 w4 := hbr3.trans (h2.below (by omega) hown3.le)
              have h1' : OwnI .i64 3 (w.heap.size + 1) w4 v' (upKs ⟨clear, climb, height, rise, run, cw, cd⟩ xs (k + 1)).length (upKs ⟨clear, climb, height, rise, run, cw, cd⟩ xs (k + 1)) := by rw [upKs_yes Ho.out, List.length_append]; exact h1
              clear h1 h2 hown3
              go_wp2
              go_roundw
              case rel => exact ⟨k + 1, by go_num, by omega, h1', hb4⟩
              case measure => simp [intOf]; omega
        · obtain rfl : k = n := by omega
          go_wp2
          go_ret2
          refine ⟨_, ret_tup2 rfl ?_, ?_, hBr⟩
          · simp [openE, HC2.out, HS2.out]
          · rw [openKs_ok HC2.out HS2.out, Hl.out]
            exact hown.mono (by omega)
    · have HS1 := Lib.hid h1
      have HS2 := Lib.hid h2
      clear h1 h2
      go_enter Try.func27, Try.ntmps27
      go_wp2_with fail
      refine (refcfgcheck_any ⟨clear, climb, height, rise, run, cw, cd⟩ _).mono ?_
      rw [HC1.out]
      rintro e w1 ⟨rfl, hb1⟩
      have hB1 : Below w.heap.size w w1 := ((Below.refl _ _).alloc (Nat.le_refl _) _).trans (hb1.mono (by simp))
      go_wp2_with fail
      refine (refspancheck_any a n c xs _ (Hx.out.below hB1 (Nat.le_refl _))).mono ?_
      rw [HS1.out]
      rintro e w2 ⟨rfl, hb2⟩
      have hB2 : Below w.heap.size w w2 := hB1.trans (hb2.mono hB1.size)
      go_wp2
      go_ret2
      exact ⟨_, ret_tup2 rfl (by simp [openE, HC2.out, HS2.out]), by simp only [openKs, HC2.out, HS2.out]; exact OwnI.nil _ _ _ _, hB2⟩
  · have HC1 := Lib.hid h1
    have HC2 := Lib.hid h2
    clear h1 h2 hsp
    go_enter Try.func27, Try.ntmps27
    go_wp2_with fail
    refine (refcfgcheck_any ⟨clear, climb, height, rise, run, cw, cd⟩ _).mono ?_
    rw [HC1.out]
    rintro e w1 ⟨rfl, hb1⟩
    have hB1 : Below w.heap.size w w1 := ((Below.refl _ _).alloc (Nat.le_refl _) _).trans (hb1.mono (by simp))
    go_wp2
    go_ret2
    exact ⟨_, ret_tup2 rfl (by simp [openE, HC2.out]), by simp only [openKs, HC2.out]; exact OwnI.nil _ _ _ _, hB1⟩

end Go.Proofs.Ytilhmlapbifbbaa
