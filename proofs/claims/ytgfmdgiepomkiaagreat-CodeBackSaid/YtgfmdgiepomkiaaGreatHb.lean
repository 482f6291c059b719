/- Walks: the same numbers? -/
import Derived.Test.YtgfmdgiepomkiaaGreatGa
namespace Go.Proofs.YtgfmdgiepomkiaaGreat
open Go.RowKit

theorem take_eq_succI {xs ys : List Int} {k : Nat} (h1 : k < xs.length) (h2 : k < ys.length) (h : xs.take k = ys.take k) (he : xs.getD k 0 = ys.getD k 0) : xs.take (k + 1) = ys.take (k + 1) := by
 rw [List.take_succ_eq_append_getElem h1, List.take_succ_eq_append_getElem h2, h]
 simp [List.getD_eq_getElem?_getD, List.getElem?_eq_getElem h1, List.getElem?_eq_getElem h2] at he
 rw [he]

theorem ne_of_getDI {xs ys : List Int} {k : Nat} (he : xs.getD k 0 ≠ ys.getD k 0) : xs ≠ ys := by
 rintro rfl; exact he rfl

set_option maxHeartbeats 400000 in
theorem ints01_any (a b : Option Addr) (n c m d : Nat) (xs ys : List Int) (w : World) (hx : SlI .i64 w a n c xs) (hy : SlI .i64 w b m d ys) :
  Calls Tryz.prog 88 #[.slice a n c, .slice b m d] w fun e w' => e = .returned (.bool (decide (xs = ys))) ∧ ∃ k, w' = w.drewN k := by
 obtain ⟨hxl, hxc, hxm, hxe⟩ := hx
 obtain ⟨hyl, hyc, hym, hye⟩ := hy
 by_cases hnm : n = m
 ·
  subst hnm
  by_cases h0 : n = 0
  ·
   subst h0
   have e : xs = ys := by rw [List.length_eq_zero_iff.1 hxl, List.length_eq_zero_iff.1 hyl]
   subst e
   clear hxl hyl
   go_enter Tryz.func88, Tryz.ntmps88
   go_wp2
   go_loop [5] (fun i => i = .int .i64 0) (fun _ => 0)
   case atStart => rfl
   case round =>
    subst hrel
    go_wp2
    go_ret
    exact ⟨ret_bool (by simp), 0, rfl⟩
  have hx1 := hxe.resolve_left h0
  have hy1 := hye.resolve_left h0
  clear hxe hye
  obtain ⟨ba, oa, rfl, hca⟩ := hx1
  obtain ⟨bb, ob, rfl, hcb⟩ := hy1
  have Hx := Lib.hid hxl; clear hxl
  have Hy := Lib.hid hyl; clear hyl
  have Hca := Lib.hid hca; clear hca
  have Hcb := Lib.hid hcb; clear hcb
  go_enter Tryz.func88, Tryz.ntmps88
  go_wp2
  go_loopw [4, 5] (fun r i wr => ∃ k : Nat, k ≤ n ∧ r = .bool false ∧ i = .int .i64 k ∧ Hid (xs.take k = ys.take k) ∧ Hid (∃ q, wr = w.drewN q)) (fun _ i _ => n - (intOf i).toNat)
  case atStart => exact ⟨0, Nat.zero_le _, rfl, rfl, by simp [Hid], 0, rfl⟩
  case round wr =>
   obtain ⟨k, hk, rfl, rfl, He, Hw⟩ := hrel
   by_cases hlt : k < n
   ·
    have h1 : wr.cell? ⟨ba, oa + k, none⟩ = some (.int .i64 (xs.getD k 0)) := by obtain ⟨q, rfl⟩ := Hw; exact Hca.out k hlt
    have h2 : wr.cell? ⟨bb, ob + k, none⟩ = some (.int .i64 (ys.getD k 0)) := by obtain ⟨q, rfl⟩ := Hw; exact Hcb.out k hlt
    obtain ⟨x, hxk⟩ : ∃ x, x = xs.getD k 0 := ⟨_, rfl⟩
    obtain ⟨y, hyk⟩ : ∃ y, y = ys.getD k 0 := ⟨_, rfl⟩
    rw [← hxk] at h1
    rw [← hyk] at h2
    have Hxk := Lib.hid hxk; clear hxk
    have Hyk := Lib.hid hyk; clear hyk
    by_cases hxy : x = y
    ·
     have hb : (x != y) = false := by simp [hxy]
     have Hxy := Lib.hid hxy; clear hxy
     go_wp2
     go_quiet (fail)
     go_wp2
     go_roundw
     case rel =>
      refine ⟨k + 1, by omega, rfl, by go_num, ?_, ?_⟩
      ·
       exact take_eq_succI (by rw [Hx.out]; exact hlt) (by rw [Hy.out]; exact hlt) He (by rw [← Hxk.out, ← Hyk.out]; exact Hxy.out)
      ·
       obtain ⟨q, rfl⟩ := Hw
       exact ⟨_, World.drewN_drewN ..⟩
     case measure => simp [intOf]; omega
    ·
     have hb : (x != y) = true := by simp [hxy]
     have Hxy := Lib.hid hxy; clear hxy
     go_wp2
     go_quiet (fail)
     go_wp2
     go_ret
     refine ⟨ret_bool ?_, ?_⟩
     ·
      rw [eq_comm, decide_eq_false_iff_not]
      exact ne_of_getDI (k := k) (by rw [← Hxk.out, ← Hyk.out]; exact Hxy.out)
     ·
      obtain ⟨q, rfl⟩ := Hw
      exact ⟨_, World.drewN_drewN ..⟩
   ·
    go_wp2
    go_ret
    refine ⟨ret_bool ?_, Hw⟩
    rw [eq_comm, decide_eq_true_iff]
    have := He.out
    rwa [List.take_of_length_le (by rw [Hx.out]; omega), List.take_of_length_le (by rw [Hy.out]; omega)] at this
 ·
  have hne : xs ≠ ys := by rintro rfl; exact hnm (hxl.symm.trans hyl)
  have hq : ((n : Int) != (m : Int)) = true := by simp; omega
  clear hxe hye hxl hyl hnm
  go_enter Tryz.func88, Tryz.ntmps88
  go_wp2
  go_ret
  exact ⟨ret_bool (by simp [hne]), 0, rfl⟩

end Go.Proofs.YtgfmdgiepomkiaaGreat
