/- Walks: filter.Each's iterator. -/
import Derived.Test.YtilhmlapbifbbaaEach
namespace Go.Proofs.Ytilhmlapbifbbaa
open Go.RowKit Go.Shelf Go.Sort
attribute [local go_sem] Oper.semAt_some

/-- Is the k-th span open? -/
def openAt (cf : Cfg) (xs : List Spn) (k : Nat) : Bool := match xs[k]? with
  | none => false
  | some x => x.walk && fitsI cf xs k
/-- What Each gives of the first k spans. -/
def eachUp (cf : Cfg) (xs : List Spn) : Nat → List (Nat × Int)
  | 0 => []
  | k + 1 => if openAt cf xs k then eachUp cf xs k ++ [(k, roomI xs k)] else eachUp cf xs k
def eachL (cf : Cfg) (xs : List Spn) : List (Nat × Int) := eachUp cf xs xs.length

theorem eachUp_yes {cf : Cfg} {xs : List Spn} {k : Nat} (h : openAt cf xs k = true) : eachUp cf xs (k + 1) = eachUp cf xs k ++ [(k, roomI xs k)] := by simp [eachUp, h]
theorem eachUp_no {cf : Cfg} {xs : List Spn} {k : Nat} (h : openAt cf xs k = false) : eachUp cf xs (k + 1) = eachUp cf xs k := by simp [eachUp, h]
theorem eachUp_len (cf : Cfg) (xs : List Spn) (k : Nat) : (eachUp cf xs k).length ≤ k := by
  induction k with
  | zero => exact Nat.le_refl _
  | succ k ih =>
    cases h : openAt cf xs k with
    | true => rw [eachUp_yes h]; simp; omega
    | false => rw [eachUp_no h]; omega
theorem eachUp_prefix (cf : Cfg) (xs : List Spn) {j k : Nat} (h : j ≤ k) : eachUp cf xs j <+: eachUp cf xs k := by
  induction k with
  | zero => rw [Nat.le_zero.1 h]; exact List.prefix_refl _
  | succ k ih =>
    by_cases e : j = k + 1
    · rw [e]; exact List.prefix_refl _
    · refine (ih (by omega)).trans ?_
      cases hk : openAt cf xs k with
      | true => rw [eachUp_yes hk]; exact List.prefix_append _ _
      | false => rw [eachUp_no hk]; exact List.prefix_refl _

set_option maxRecDepth 100000 in
set_option maxHeartbeats 1000000 in
theorem each_stopsG {β : Type} (g : β → Nat × Int) (m : Nat) (hm : 1 ≤ m) (B L : Nat) (S : Nat → Prop) (cf : Cfg) (a : Option Addr) (n c : Nat) (xs : List Spn) (w : World) (hg : ∀ k, openAt cf xs k = true → ∃ b : β, g b = (k, roomI xs k)) (he : EachAt B cf a n c xs w) (hL : B + 2 < L) (h0 : ¬ S B) (h1 : ¬ S (B + 1)) (h2 : ¬ S (B + 2)) (ha : ∀ ad, a = some ad → n = 0 ∨ (ad.block < L ∧ ¬ S ad.block)) :
    SeqStopsK Fence.wide m Try.prog 104 #[.pointer (some ⟨B + 1, 0, none⟩), .pointer (some ⟨B + 2, 0, none⟩)] (fun x : β => #[Value.int .i64 ((g x).1 : Int), Value.int .i64 (g x).2]) (KeepEx L S) (fun ys => ys.map g = eachL cf xs) (fun pre => pre.map g <+: eachL cf xs) n w := fun l J Jx W hW hJ hJx hY h0' => by
  have he' := he.below hW
  have Hl := Lib.hid he.xs.len
  have hle := he.xs.le
  have hmax := he.xs.max
  have HJ := Lib.hid hJ; clear hJ hJx
  have HY := Lib.hid hY; clear hY
  have Ha := Lib.hid ha; clear ha
  have Hg := Lib.hid hg; clear hg
  refine callsIn_of_wp Try.func104 rfl trivial ?_ rfl
  simp only [Try.ntmps104, List.size_toArray, List.length_cons, List.length_nil, Nat.reduceAdd, Nat.reduceSub, Array.replicate_succ, Array.replicate_zero, List.push_toArray, List.append_toArray, List.nil_append, List.cons_append]
  have q1 := he'.sl
  gi_wp2
  gi_loopw [9] (fun i wr => ∃ (k : Nat) (pre : List β), i = .int .i64 k ∧ k ≤ n ∧ EachAt B cf a n c xs wr ∧ pre.map g = eachUp cf xs k ∧ J pre wr) (fun i _ => n - (intOf i).toNat)
  case atStart => exact ⟨0, [], rfl, Nat.zero_le _, he', rfl, h0'⟩
  case round =>
    clear q1 he' h0'
    obtain ⟨k, pre, rfl, hk, he2, hpre, hJs⟩ := hrel
    have Hpre := Lib.hid hpre; clear hpre
    by_cases hlt : k < n
    · obtain ⟨x, hxk⟩ : ∃ x, xs[k]? = some x := ⟨_, List.getElem?_eq_getElem (by rw [Hl.out]; exact hlt)⟩
      have q1 := he2.sl
      have Ho : Hid (openAt cf xs k = (x.walk && fitsI cf xs k)) := by show _ = _; simp [openAt, hxk]
      have hkl : pre.length ≤ k := by have := eachUp_len cf xs k; rw [← Hpre.out, List.length_map] at this; exact this
      have hltI : (k : Int) < (n : Int) := by omega
      have Hxk := Lib.hid hxk; clear hxk
      have He2 := Lib.hid he2; clear he2
      gi_wp2_with fail
      refine ⟨trivial, ?_⟩
      gi_at_call 24
      refine (callsIn_wide.2 (room_any a n c xs k _ He2.out.xs)).mono ?_
      rintro e w1 ⟨rfl, hb1⟩
      have hJ1 : J pre w1 := AbidesFrom.below HJ.out hJs hb1
      have He3 : Hid (EachAt B cf a n c xs w1) := He2.out.below hb1
      have q2 := He3.out.op
      clear q1 hJs He2 hb1
      gi_wp2_with fail
      refine ⟨trivial, ?_⟩
      gi_at_call 103
      refine (callsIn_wide.2 (eachopen_any cf a n c xs k x B _ He3.out Hxk.out)).mono ?_
      rw [← Ho.out]
      rintro e w2 ⟨rfl, hb2⟩
      have hJ2 : J pre w2 := AbidesFrom.below HJ.out hJ1 hb2
      have He4 : Hid (EachAt B cf a n c xs w2) := He3.out.below hb2
      clear q2 hJ1 He3 hb2 Ho
      obtain ⟨t, ht⟩ : ∃ t, t = openAt cf xs k := ⟨_, rfl⟩
      rw [← ht]
      have Ht := Lib.hid ht.symm; clear ht
      cases t with
      | false =>
        gi_wp2
        refine ⟨fun _ h => (by cases h), ?_⟩
        gi_wp2
        go_roundw
        case rel => exact ⟨k + 1, pre, by go_num, by omega, He4.out, by rw [eachUp_no Ht.out]; exact Hpre.out, hJ2⟩
        case measure => simp [intOf]; omega
      | true =>
        obtain ⟨bx, hbx⟩ := Hg.out k Ht.out
        obtain ⟨fn, tmps, assign, body, hy, hR⟩ := HY.out _ bx w2 hJ2 (by omega)
        rw [hbx] at hy
        dsimp only at hy
        have Hbx := Lib.hid hbx; clear hbx
        have HR := Lib.hid hR; clear hR
        gi_wp2
        refine HR.out.mono ?_
        rintro e W3 (⟨rfl, hJ3, hk3⟩ | ⟨rfl, hJx3⟩)
        · clear hJ2 hy HR
          gi_wp2
          go_roundw
          case rel => exact ⟨k + 1, pre ++ [bx], by go_num, by omega, He4.out.keep hk3 hL h0 h1 h2 Ha.out, by rw [eachUp_yes Ht.out, List.map_append, Hpre.out, List.map_singleton, Hbx.out], hJ3⟩
          case measure => simp [intOf]; omega
        · clear hJ2 hy HR
          gi_wp2
          refine bodyPost_ret (results_none rfl _ _ _) rfl ?_
          refine ⟨⟨_, rfl⟩, .inr ⟨_, ?_, hJx3⟩⟩
          rw [List.map_append, Hpre.out, List.map_singleton, Hbx.out, ← eachUp_yes Ht.out]
          exact eachUp_prefix cf xs (by rw [Hl.out]; exact hlt)
    · obtain rfl : k = n := by omega
      gi_wp2
      go_end0
      refine ⟨⟨_, rfl⟩, .inl ⟨_, by rw [Hpre.out, eachL, Hl.out], ?_⟩⟩
      exact hJs

theorem each_stops (m : Nat) (hm : 1 ≤ m) (B L : Nat) (S : Nat → Prop) (cf : Cfg) (a : Option Addr) (n c : Nat) (xs : List Spn) (w : World) (he : EachAt B cf a n c xs w) (hL : B + 2 < L) (h0 : ¬ S B) (h1 : ¬ S (B + 1)) (h2 : ¬ S (B + 2)) (ha : ∀ ad, a = some ad → n = 0 ∨ (ad.block < L ∧ ¬ S ad.block)) :
    SeqStopsK Fence.wide m Try.prog 104 #[.pointer (some ⟨B + 1, 0, none⟩), .pointer (some ⟨B + 2, 0, none⟩)] (fun x : Nat × Int => #[Value.int .i64 (x.1 : Int), Value.int .i64 x.2]) (KeepEx L S) (fun ys => ys = eachL cf xs) (fun pre => pre <+: eachL cf xs) n w := by
  have := each_stopsG (id : Nat × Int → Nat × Int) m hm B L S cf a n c xs w (fun k _ => ⟨_, rfl⟩) he hL h0 h1 h2 ha
  simp only [List.map_id, id] at this
  exact this

end Go.Proofs.Ytilhmlapbifbbaa
