/- Walks: may it be a table? -/
import Derived.Test.YtilhmlapbifbbaaTab
namespace Go.Proofs.Ytilhmlapbifbbaa
open Go.RowKit Go.Sort

def mayN (x : Int) : Bool := decide (-1 ≤ x) && decide (x ≤ 1099511627776)
theorem mayR_eq (n : Nat) (r : List Int) : mayR n r = (decide (r.length = n) && r.all mayN) := rfl

set_option maxHeartbeats 400000 in
theorem may11_any (x : Int) (w : World) : Calls Try.prog 75 #[.int .i64 x] w fun e w' => e = .returned (.bool (mayN x)) ∧ w = w' := by
  by_cases h1 : -1 ≤ x
  · by_cases h2 : x ≤ 1099511627776
    · have H : Hid (mayN x = true) := by show _ = _; simp [mayN, h1, h2]
      go_enter Try.func75, Try.ntmps75
      go_wp2
      go_ret
      exact ⟨ret_bool H.out.symm, rfl⟩
    · have H : Hid (mayN x = false) := by show _ = _; simp [mayN, h2]
      go_enter Try.func75, Try.ntmps75
      go_wp2
      go_ret
      exact ⟨ret_bool H.out.symm, rfl⟩
  · have H : Hid (mayN x = false) := by show _ = _; simp [mayN, h1]
    go_enter Try.func75, Try.ntmps75
    go_wp2
    go_ret
    exact ⟨ret_bool H.out.symm, rfl⟩

theorem all_take_false {α : Type} {p : α → Bool} {l : List α} {k : Nat} {x : α} (hx : l[k]? = some x) (h : p x = false) : l.all p = false := by
  rw [List.all_eq_false]
  exact ⟨x, List.mem_of_getElem? hx, by simp [h]⟩
theorem all_of_upto {α : Type} {p : α → Bool} {l : List α} {k : Nat} (hk : l.length ≤ k) (h : ∀ j x, j < k → l[j]? = some x → p x = true) : l.all p = true := by
  rw [List.all_eq_true]
  intro x hx
  obtain ⟨j, hj⟩ := List.mem_iff_getElem?.1 hx
  exact h j x (by have := (List.getElem?_eq_some_iff.1 hj).1; omega) hj
theorem upto_step {α : Type} {p : α → Bool} {l : List α} {k : Nat} {x : α} (h : ∀ j y, j < k → l[j]? = some y → p y = true) (hx : l[k]? = some x) (hp : p x = true) : ∀ j y, j < k + 1 → l[j]? = some y → p y = true := by
  intro j y hj hy
  by_cases e : j = k
  · subst e; rw [hx] at hy; cases hy; exact hp
  · exact h j y (by omega) hy

set_option maxHeartbeats 400000 in
theorem allint_any (a : Option Addr) (n c : Nat) (xs : List Int) (w : World) (hx : SlI .i64 w a n c xs) :
    Calls Try.prog 74 #[.slice a n c, .func (.func 75) #[] #[]] w fun e w' => e = .returned (.bool (xs.all mayN)) ∧ w = w' := by
  have Hl := Lib.hid hx.len
  have hmax := hx.max
  have hle := hx.le
  have Hx := Lib.hid hx; clear hx
  go_enter Try.func74, Try.ntmps74
  go_wp2
  go_loop [9] (fun i => ∃ k : Nat, i = .int .i64 k ∧ k ≤ n ∧ Hid (∀ j y, j < k → xs[j]? = some y → mayN y = true)) (fun i => n - (intOf i).toNat)
  case atStart => exact ⟨0, rfl, by omega, fun j y hj => by omega⟩
  case round =>
    obtain ⟨k, rfl, hk, Hs⟩ := hrel
    by_cases hlt : k < n
    · have hltI : (k : Int) < (n : Int) := by omega
      obtain ⟨b, off, rfl, hc⟩ := Hx.out.at0 (by omega)
      obtain ⟨x, hxk⟩ : ∃ x, xs[k]? = some x := ⟨_, List.getElem?_eq_getElem (by rw [Hl.out]; exact hlt)⟩
      have c1 := hc k hlt
      rw [List.getD_eq_getElem?_getD, hxk, Option.getD_some] at c1
      have Hxk := Lib.hid hxk
      clear hc hxk
      obtain ⟨r, hr⟩ : ∃ r, r = mayN x := ⟨_, rfl⟩
      have Hr := Lib.hid hr.symm; clear hr
      go_wp2_with fail
      refine (may11_any x _).mono ?_
      rw [Hr.out]
      rintro e w1 ⟨rfl, rfl⟩
      cases r with
      | true =>
        go_wp2
        go_round
        case rel => exact ⟨k + 1, by go_num, by omega, upto_step Hs.out Hxk.out Hr.out⟩
        case measure => simp [intOf]; omega
      | false =>
        have Hf : Hid (xs.all mayN = false) := all_take_false Hxk.out Hr.out
        go_wp2
        go_ret
        exact ⟨ret_bool Hf.out.symm, rfl⟩
    · have hltI : ¬ (k : Int) < (n : Int) := by omega
      have Hf : Hid (xs.all mayN = true) := all_of_upto (by rw [Hl.out]; omega) Hs.out
      go_wp2
      go_ret
      exact ⟨ret_bool Hf.out.symm, rfl⟩

set_option maxHeartbeats 400000 in
theorem may1_any (a : Option Addr) (n c : Nat) (xs : List Int) (B : Nat) (ta : Option Addr) (tn tc : Nat) (w : World) (hx : SlI .i64 w a n c xs) (hB : w.cell? ⟨B, 0, none⟩ = some (.slice ta tn tc)) :
    Calls Try.prog 73 #[.slice a n c, .pointer (some ⟨B, 0, none⟩)] w fun e w' => e = .returned (.bool (mayR tn xs)) ∧ w = w' := by
  have Hl := Lib.hid hx.len
  have Hx := Lib.hid hx; clear hx
  by_cases hn : n = tn
  · have q1 : ((n : Int) == (tn : Int)) = true := by simp [hn]
    have H : Hid (mayR tn xs = xs.all mayN) := by show _ = _; rw [mayR_eq, Hl.out]; simp [hn]
    clear hn
    go_enter Try.func73, Try.ntmps73
    go_wp2_with fail
    refine (allint_any a n c xs _ Hx.out).mono ?_
    rintro e w1 ⟨rfl, rfl⟩
    go_wp2
    go_ret
    exact ⟨ret_bool H.out.symm, rfl⟩
  · have q1 : ((n : Int) == (tn : Int)) = false := by simp; omega
    have H : Hid (mayR tn xs = false) := by show _ = _; rw [mayR_eq, Hl.out]; simp [hn]
    clear hn
    go_enter Try.func73, Try.ntmps73
    go_wp2
    go_ret
    exact ⟨ret_bool H.out.symm, rfl⟩

theorem tabOf_at {rs : List TRow} {k : Nat} {r : TRow} (h : rs[k]? = some r) : (tabOf rs)[k]? = some r.xs := by simp [tabOf, h]

set_option maxHeartbeats 400000 in
theorem alltab_any (a : Option Addr) (n c : Nat) (rs : List TRow) (B : Nat) (ta : Option Addr) (tn tc : Nat) (w : World) (hx : SlT w a n c rs) (hB : w.cell? ⟨B, 0, none⟩ = some (.slice ta tn tc)) :
    Calls Try.prog 72 #[.slice a n c, .func (.func 73) #[] #[.pointer (some ⟨B, 0, none⟩)]] w fun e w' => e = .returned (.bool ((tabOf rs).all (mayR tn))) ∧ w = w' := by
  have Hl := Lib.hid hx.tlen
  have hmax := hx.sl.max
  have hle := hx.sl.le
  have Hx := Lib.hid hx; clear hx
  have HB := Lib.hid hB; clear hB
  go_enter Try.func72, Try.ntmps72
  go_wp2
  go_loop [9] (fun i => ∃ k : Nat, i = .int .i64 k ∧ k ≤ n ∧ Hid (∀ j y, j < k → (tabOf rs)[j]? = some y → mayR tn y = true)) (fun i => n - (intOf i).toNat)
  case atStart => exact ⟨0, rfl, by omega, fun j y hj => by omega⟩
  case round =>
    obtain ⟨k, rfl, hk, Hs⟩ := hrel
    by_cases hlt : k < n
    · have hltI : (k : Int) < (n : Int) := by omega
      obtain ⟨b, off, r, rfl, hr, hc, hs, _⟩ := Hx.out.row hlt
      have Hxk := Lib.hid (tabOf_at hr)
      have Hs2 := Lib.hid hs
      obtain ⟨ra, rn, rc, rxs⟩ := r
      simp only at hc
      clear hr hs
      obtain ⟨t, ht⟩ : ∃ t, t = mayR tn rxs := ⟨_, rfl⟩
      have Ht := Lib.hid ht.symm; clear ht
      go_wp2_with fail
      refine (may1_any ra rn rc rxs B ta tn tc _ Hs2.out HB.out).mono ?_
      rw [Ht.out]
      rintro e w1 ⟨rfl, rfl⟩
      cases t with
      | true =>
        go_wp2
        go_round
        case rel => exact ⟨k + 1, by go_num, by omega, upto_step Hs.out Hxk.out Ht.out⟩
        case measure => simp [intOf]; omega
      | false =>
        have Hf : Hid ((tabOf rs).all (mayR tn) = false) := all_take_false Hxk.out Ht.out
        go_wp2
        go_ret
        exact ⟨ret_bool Hf.out.symm, rfl⟩
    · have hltI : ¬ (k : Int) < (n : Int) := by omega
      have Hf : Hid ((tabOf rs).all (mayR tn) = true) := all_of_upto (by rw [Hl.out]; omega) Hs.out
      go_wp2
      go_ret
      exact ⟨ret_bool Hf.out.symm, rfl⟩

set_option maxHeartbeats 400000 in
theorem may_tab (a : Option Addr) (n c : Nat) (rs : List TRow) (w : World) (hx : SlT w a n c rs) :
    Calls Try.prog 38 #[.slice a n c] w fun e w' => e = .returned (.bool (mayT (tabOf rs))) ∧ Below w.heap.size w w' := by
  have Hl := Lib.hid hx.tlen
  have Hx := Lib.hid hx; clear hx
  have hB : Below w.heap.size w (w.alloc (.cells #[.slice a n c] 52)) := (Below.refl _ _).alloc (Nat.le_refl _) _
  by_cases hn : n ≤ 12
  · have hnI : (n : Int) ≤ 12 := by omega
    have H : Hid (mayT (tabOf rs) = (tabOf rs).all (mayR n)) := by show _ = _; unfold mayT; rw [Hl.out]; simp [hn]
    go_enter Try.func38, Try.ntmps38
    go_wp2_with fail
    refine (alltab_any a n c rs w.heap.size a n c _ (Hx.out.alloc _) (World.cell?_alloc_at _ _ _ _ rfl)).mono ?_
    rintro e w1 ⟨rfl, rfl⟩
    go_wp2
    go_ret
    exact ⟨ret_bool H.out.symm, hB⟩
  · have hnI : ¬ (n : Int) ≤ 12 := by omega
    have H : Hid (mayT (tabOf rs) = false) := by show _ = _; unfold mayT; rw [Hl.out]; simp [hn]
    go_enter Try.func38, Try.ntmps38
    go_wp2
    go_ret
    exact ⟨ret_bool H.out.symm, hB⟩

set_option maxHeartbeats 1000000 in
theorem refmay_tab (a : Option Addr) (n c : Nat) (rs : List TRow) (w : World) (hx : SlT w a n c rs) :
    Calls Try.prog 39 #[.slice a n c] w fun e w' => e = .returned (.bool (mayT (tabOf rs))) ∧ Below w.heap.size w w' := by
  have Hl := Lib.hid hx.tlen
  have hmax := hx.sl.max
  have hle := hx.sl.le
  have Hx := Lib.hid hx; clear hx
  by_cases hn : 12 < n
  · have hnI : (12 : Int) < (n : Int) := by omega
    have H : Hid (mayT (tabOf rs) = false) := by show _ = _; unfold mayT; rw [Hl.out]; simp; omega
    go_enter Try.func39, Try.ntmps39
    go_wp2
    go_ret
    exact ⟨ret_bool H.out.symm, Below.refl _ _⟩
  · have hnI : ¬ (12 : Int) < (n : Int) := by omega
    have H : Hid (mayT (tabOf rs) = (tabOf rs).all (mayR n)) := by show _ = _; unfold mayT; rw [Hl.out]; simp; omega
    go_enter Try.func39, Try.ntmps39
    go_wp2
    go_loop [3] (fun i => ∃ k : Nat, i = .int .i64 k ∧ k ≤ n ∧ Hid (∀ j y, j < k → (tabOf rs)[j]? = some y → mayR n y = true)) (fun i => n - (intOf i).toNat)
    case atStart => exact ⟨0, rfl, by omega, fun j y hj => by omega⟩
    case round =>
      obtain ⟨k, rfl, hk, Hs⟩ := hrel
      by_cases hlt : k < n
      · have hltI : (k : Int) < (n : Int) := by omega
        obtain ⟨b, off, r, rfl, hr, hc, hs, _⟩ := Hx.out.row hlt
        have Hxk := Lib.hid (tabOf_at hr)
        obtain ⟨ra, rn, rc, rxs⟩ := r
        have hrl := hs.len
        have hrc := hs.le
        have hrm := hs.max
        have Hs2 := Lib.hid hs
        simp only at hc hrl hrc hrm
        have Hrl := Lib.hid hrl
        clear hr hs hrl
        by_cases hrn : rn = n
        · have q1 : ((rn : Int) != (n : Int)) = false := by simp [hrn]
          have hrnle : n ≤ rn := by omega
          have hrnge : rn ≤ n := by omega
          clear hrn
          go_wp2
          go_loop [4] (fun i => ∃ q : Nat, i = .int .i64 q ∧ q ≤ n ∧ Hid (∀ j y, j < q → rxs[j]? = some y → mayN y = true)) (fun i => n - (intOf i).toNat)
          case atStart => exact ⟨0, rfl, by omega, fun j y hj => by omega⟩
          case round =>
            obtain ⟨q, rfl, hq, Hq⟩ := hrel
            by_cases hqn : q < n
            · have hqI : (q : Int) < (n : Int) := by omega
              have hqr : (q : Int) < (rn : Int) := by omega
              obtain ⟨b2, off2, rfl, hc2⟩ := Hs2.out.at0 (by omega)
              obtain ⟨x, hxq⟩ : ∃ x, rxs[q]? = some x := ⟨_, List.getElem?_eq_getElem (by rw [Hrl.out]; omega)⟩
              have c2 := hc2 q (by omega)
              rw [List.getD_eq_getElem?_getD, hxq, Option.getD_some] at c2
              have Hxq := Lib.hid hxq
              clear hc2 hxq
              by_cases h1 : x < -1
              · have Hf : Hid ((tabOf rs).all (mayR n) = false) := all_take_false Hxk.out (by rw [mayR_eq, all_take_false Hxq.out (by simp [mayN]; omega)]; simp)
                go_wp2
                go_ret
                exact ⟨ret_bool (by rw [H.out, Hf.out]), Below.refl _ _⟩
              · by_cases h2 : 1099511627776 < x
                · have Hf : Hid ((tabOf rs).all (mayR n) = false) := all_take_false Hxk.out (by rw [mayR_eq, all_take_false Hxq.out (by simp [mayN]; omega)]; simp)
                  go_wp2
                  go_ret
                  exact ⟨ret_bool (by rw [H.out, Hf.out]), Below.refl _ _⟩
                · have hmx : mayN x = true := by simp [mayN]; omega
                  have Hmx := Lib.hid hmx; clear hmx
                  go_wp2
                  go_round
                  case rel => exact ⟨q + 1, by go_num, by omega, upto_step Hq.out Hxq.out Hmx.out⟩
                  case measure => simp [intOf]; omega
            · have hqI : ¬ (q : Int) < (n : Int) := by omega
              have Hm : Hid (mayR n rxs = true) := by show _ = _; rw [mayR_eq, all_of_upto (by rw [Hrl.out]; omega) Hq.out, Hrl.out]; simp; omega
              go_wp2
              go_round
              case rel => exact ⟨k + 1, by go_num, by omega, upto_step Hs.out Hxk.out Hm.out⟩
              case measure => simp [intOf]; omega
        · have q1 : ((rn : Int) != (n : Int)) = true := by simp; omega
          have Hf : Hid ((tabOf rs).all (mayR n) = false) := all_take_false Hxk.out (by rw [mayR_eq, Hrl.out]; simp [hrn])
          clear hrn
          go_wp2
          go_ret
          exact ⟨ret_bool (by rw [H.out, Hf.out]), Below.refl _ _⟩
      · have hltI : ¬ (k : Int) < (n : Int) := by omega
        have Hf : Hid ((tabOf rs).all (mayR n) = true) := all_of_upto (by rw [Hl.out]; omega) Hs.out
        go_wp2
        go_ret
        exact ⟨ret_bool (by rw [H.out, Hf.out]), Below.refl _ _⟩

end Go.Proofs.Ytilhmlapbifbbaa
