/- Walks: Number, Signed, ReadNumber, theirs and the document's. -/
import Derived.Test.YtgfmdgiepomkiaaGreatKb
namespace Go.Proofs.YtgfmdgiepomkiaaGreat
open Go.RowKit

set_option maxHeartbeats 400000 in
theorem zig_any (n : Int) (w : World) (h1 : -1099511627776 ≤ n) (h2 : n ≤ 1099511627776) :
  Calls Tryz.prog 20 #[.int .i64 n] w fun e w' => e = .returned (.int .i64 (zig n)) ∧ w = w' := by
 by_cases h : n < 0
 ·
  have e : Hid (bits .xor .i64 (n * 2) (n / 4611686018427387904) = (zig n : Int)) := by
   have e1 : n / 4611686018427387904 = -1 := by omega
   rw [e1, i64_xor_m1 _ (by omega) (by omega)]
   simp [Hid, zig, h]; omega
  go_enter Tryz.func20, Tryz.ntmps20
  go_wp2
  go_ret
  exact ⟨ret_int e.out, rfl⟩
 ·
  have e : Hid (bits .xor .i64 (n * 2) (n / 4611686018427387904) = (zig n : Int)) := by
   have e1 : n / 4611686018427387904 = 0 := by omega
   rw [e1, i64_xor_0 _ (by omega) (by omega)]
   simp [Hid, zig, h]; omega
  go_enter Tryz.func20, Tryz.ntmps20
  go_wp2
  go_ret
  exact ⟨ret_int e.out, rfl⟩

/-- What Number and Signed answer: bytes in new memory, and an error. -/
def NumPost (w : World) (l : List Int) (er : Int) (e : Ending) (w' : World) : Prop :=
 ∃ v, e = .returned (.tuple #[v, .int .i64 er]) ∧ OwnI .u8 5 w.heap.size w' v l.length l ∧ Below w.heap.size w w'

set_option maxHeartbeats 400000 in
theorem number_any (n : Int) (w : World) (h2 : n ≤ 9223372036854775807) :
  Calls Tryz.prog 15 #[.int .i64 n] w (NumPost w (numL n) (numE n)) := by
 by_cases h : n < 0
 ·
  have e1 : Hid (numL n = []) := by simp [Hid, numL, h]
  have e2 : Hid (numE n = 2) := by simp [Hid, numE, h]
  go_enter Tryz.func15, Tryz.ntmps15
  go_wp2
  go_ret2
  unfold NumPost
  rw [e1.out, e2.out]
  exact ⟨_, rfl, OwnI.nil _ _ _ _, Below.refl _ _⟩
 ·
  have e1 : Hid (numL n = encs [n]) := by show numL n = encs [n]; rw [numL, if_neg h]; simp [encs]
  have e2 : Hid (numE n = 0) := by show numE n = 0; rw [numE, if_neg h]
  go_enter Tryz.func15, Tryz.ntmps15
  go_wp2_with fail
  refine (put_any w.heap.size _ 0 [] _ 1 1 [n] _ (OwnI.nil _ _ _ _) (by simp) ⟨rfl, by omega, by omega, .inr ⟨w.heap.size, 0, rfl, ?_⟩⟩ ?_ (by simp [Value.ownBlock]) (by omega)).mono ?_
  ·
   intro i hi
   obtain rfl : i = 0 := by omega
   rw [World.cell?_alloc_at _ _ _ _ rfl]
   rfl
  ·
   intro x hx
   simp at hx
   omega
  rintro e w' ⟨v', rfl, h1, h2⟩
  go_wp2
  go_ret2
  unfold NumPost
  rw [e1.out, e2.out]
  exact ⟨_, rfl, by simpa using h1, ((Below.refl _ _).alloc (Nat.le_refl _) _).trans (h2.below (by simp) (by simp [Value.ownBlock]))⟩

theorem zig_le (n : Int) (h1 : -1099511627776 ≤ n) (h2 : n ≤ 1099511627776) : zig n ≤ 2199023255552 := by
 unfold zig
 split <;> omega

set_option maxHeartbeats 400000 in
theorem signed_any (n : Int) (w : World) :
  Calls Tryz.prog 16 #[.int .i64 n] w (NumPost w (sgnL n) (sgnE n)) := by
 by_cases h : n < -1099511627776 ∨ 1099511627776 < n
 ·
  have e1 : Hid (sgnL n = []) := by show _ = _; rw [sgnL, if_pos h]
  have e2 : Hid (sgnE n = 2) := by show _ = _; rw [sgnE, if_pos h]
  by_cases ha : n < -1099511627776
  ·
   clear h
   go_enter Tryz.func16, Tryz.ntmps16
   go_wp2
   go_ret2
   unfold NumPost
   rw [e1.out, e2.out]
   exact ⟨_, rfl, OwnI.nil _ _ _ _, Below.refl _ _⟩
  ·
   have hb : 1099511627776 < n := by omega
   clear h
   go_enter Tryz.func16, Tryz.ntmps16
   go_wp2
   go_ret2
   unfold NumPost
   rw [e1.out, e2.out]
   exact ⟨_, rfl, OwnI.nil _ _ _ _, Below.refl _ _⟩
 ·
  have e1 : Hid (sgnL n = enc (zig n)) := by show _ = _; rw [sgnL, if_neg h]
  have e2 : Hid (sgnE n = 0) := by show _ = _; rw [sgnE, if_neg h]
  have ha : -1099511627776 ≤ n := by omega
  have hb : n ≤ 1099511627776 := by omega
  have hz := zig_le n ha hb
  clear h
  go_enter Tryz.func16, Tryz.ntmps16
  go_wp2_with fail
  refine (zig_any n _ ha hb).mono ?_
  rintro e w' ⟨rfl, rfl⟩
  go_wp2_with fail
  refine (put_any w.heap.size _ 0 [] _ 1 1 [(zig n : Int)] _ (OwnI.nil _ _ _ _) (by simp) ⟨rfl, by omega, by omega, .inr ⟨w.heap.size, 0, rfl, ?_⟩⟩ ?_ (by simp [Value.ownBlock]) (by omega)).mono ?_
  ·
   intro i hi
   obtain rfl : i = 0 := by omega
   rw [World.cell?_alloc_at _ _ _ _ rfl]
   rfl
  ·
   intro x hx
   simp at hx
   omega
  rintro e w' ⟨v', rfl, h1, h2⟩
  have e3 : Hid (encs [(zig n : Int)] = enc (zig n)) := by simp [Hid, encs]
  rw [e3.out] at h1
  go_wp2
  go_ret2
  unfold NumPost
  rw [e1.out, e2.out]
  exact ⟨_, rfl, by simpa using h1, ((Below.refl _ _).alloc (Nat.le_refl _) _).trans (h2.below (by simp) (by simp [Value.ownBlock]))⟩


set_option maxHeartbeats 400000 in
theorem readnumber_any (a : Option Addr) (n c : Nat) (xs : List Int) (w : World) (hx : SlI .u8 w a n c xs) (hb : ∀ x ∈ xs, 0 ≤ x ∧ x ≤ 255) :
  Calls Tryz.prog 17 #[.slice a n c] w fun e w' => e = .returned (.tuple #[.int .i64 (rdN xs).1, .int .i64 (rdN xs).2.1, .int .i64 (rdN xs).2.2]) ∧ w = w' := by
 have Hb := Lib.hid hb; clear hb
 have Hl := Lib.hid hx.len
 have hle := hx.le
 have hmax := hx.max
 rcases hx.cell with h0 | ⟨b, off, rfl, hcell⟩
 ·
  have Hres : Hid (rdN xs = (0, 0, 200)) := rdAt_out xs 9 0 0 (by rw [Hl.out, h0]; exact Nat.le_refl _)
  clear hx
  subst h0
  go_enter Tryz.func17, Tryz.ntmps17
  go_wp2
  go_loop [13] (fun i => i = .int .i64 0) (fun _ => 0)
  case atStart => rfl
  case round =>
   subst hrel
   go_wp2
   go_ret3
   rw [Hres.out]
   exact ⟨rfl, rfl⟩
 have Hc := Lib.hid hcell; clear hcell hx
 by_cases h9 : n ≤ 9
 ·
  have h9' : (n : Int) ≤ 9 := by omega
  go_enter Tryz.func17, Tryz.ntmps17
  go_wp2
  go_loop [2, 13] (fun acc i => ∃ (k : Nat) (s : Int), i = .int .i64 k ∧ acc = .int .i64 s ∧ k ≤ n ∧ k ≤ 9 ∧ 0 ≤ s ∧ s < 128 ^ k ∧ Hid (rdAt xs (9 - k) k s = rdN xs)) (fun _ i => 9 - (intOf i).toNat)
  case atStart => exact ⟨0, 0, rfl, rfl, by omega, by omega, by omega, by decide, rfl⟩
  case round =>
   obtain ⟨k, s, rfl, rfl, hk, hk9, hs0, hs1, Hrd⟩ := hrel
   by_cases hlt : k < n
   ·
    have hltn : k < n := by omega
    have hk9' : k < 9 := by omega
    obtain ⟨x, hx⟩ : ∃ x, x = xs.getD k 0 := ⟨_, rfl⟩
    have hmem : x ∈ xs := by rw [hx, List.getD_eq_getElem?_getD, List.getElem?_eq_getElem (by rw [Hl.out]; exact hltn)]; simp
    have hx0 := (Hb.out x hmem).1
    have hx1 := (Hb.out x hmem).2
    have hcell := Hc.out k hltn
    rw [← hx] at hcell
    obtain ⟨y, hy, hwr, hor, hy0, hsy, hsy63⟩ := rd_bits k s x hk9' hs0 hs1
    have Hst : Hid _ := rdAt_step xs k s y x hk9' (by rw [Hl.out]; exact hltn) hx hy
    have Hsy := Lib.hid hsy
    clear hx hmem hy hsy
    have hand : bits .and .u8 x 127 = x % 128 := u8_and127 x hx0 hx1
    by_cases h128 : x < 128
    ·
     by_cases hx00 : x = 0
     ·
      by_cases hk0 : k = 0
      ·
       have Hres : Hid (rdN xs = (s + y, (k : Int) + 1, 0)) := by
        show _ = _
        rw [← Hrd.out, Hst.out, if_pos h128, if_neg (by omega)]
       have q1 : (x == 0) = true := by simp [hx00]
       have q2 : ((k : Int) == 0) = true := by simp [hk0]
       have q3 : ¬ 0 < x := by omega
       clear hx00 hk0
       go_wp2
       go_ret3
       rw [Hres.out]
       exact ⟨rfl, rfl⟩
      ·
       have Hres : Hid (rdN xs = (0, 0, 200)) := by
        show _ = _
        rw [← Hrd.out, Hst.out, if_pos h128, if_pos ⟨hx00, by omega⟩]
       have q1 : (x == 0) = true := by simp [hx00]
       have q2 : ((k : Int) == 0) = false := by simp [hk0]
       have q3 : ¬ 0 < x := by omega
       clear hx00 hk0
       go_wp2
       go_ret3
       rw [Hres.out]
       exact ⟨rfl, rfl⟩
     ·
      have Hres : Hid (rdN xs = (s + y, (k : Int) + 1, 0)) := by
       show _ = _
       rw [← Hrd.out, Hst.out, if_pos h128, if_neg (by omega)]
      have q3 : 0 < x := by omega
      clear hx00
      go_wp2
      go_ret3
      rw [Hres.out]
      exact ⟨rfl, rfl⟩
    ·
     have Hres : Hid (rdAt xs (9 - (k + 1)) (k + 1) (s + y) = rdN xs) := by
      show _ = _
      rw [← Hrd.out, Hst.out, if_neg h128]
     have q1 : (x == 0) = false := by simp; omega
     go_wp2
     go_round
     case rel => exact ⟨k + 1, s + y, by go_num, rfl, by omega, by omega, by omega, Hsy.out, Hres⟩
     case measure => simp [intOf]; omega
   ·
    have Hres : Hid (rdN xs = (0, 0, 200)) := by
     show _ = _
     rw [← Hrd.out]
     exact rdAt_out _ _ _ _ (by rw [Hl.out]; omega)
    go_wp2
    go_ret3
    rw [Hres.out]
    exact ⟨rfl, rfl⟩
 ·
  have h9' : ¬ (n : Int) ≤ 9 := by omega
  have hmx : (max 9 0 : Int) = 9 := rfl
  go_enter Tryz.func17, Tryz.ntmps17
  go_wp2
  go_loop [2, 13] (fun acc i => ∃ (k : Nat) (s : Int), i = .int .i64 k ∧ acc = .int .i64 s ∧ k ≤ n ∧ k ≤ 9 ∧ 0 ≤ s ∧ s < 128 ^ k ∧ Hid (rdAt xs (9 - k) k s = rdN xs)) (fun _ i => 9 - (intOf i).toNat)
  case atStart => exact ⟨0, 0, rfl, rfl, by omega, by omega, by omega, by decide, rfl⟩
  case round =>
   obtain ⟨k, s, rfl, rfl, hk, hk9, hs0, hs1, Hrd⟩ := hrel
   by_cases hlt : k < 9
   ·
    have hltn : k < n := by omega
    have hk9' : k < 9 := by omega
    obtain ⟨x, hx⟩ : ∃ x, x = xs.getD k 0 := ⟨_, rfl⟩
    have hmem : x ∈ xs := by rw [hx, List.getD_eq_getElem?_getD, List.getElem?_eq_getElem (by rw [Hl.out]; exact hltn)]; simp
    have hx0 := (Hb.out x hmem).1
    have hx1 := (Hb.out x hmem).2
    have hcell := Hc.out k hltn
    rw [← hx] at hcell
    obtain ⟨y, hy, hwr, hor, hy0, hsy, hsy63⟩ := rd_bits k s x hk9' hs0 hs1
    have Hst : Hid _ := rdAt_step xs k s y x hk9' (by rw [Hl.out]; exact hltn) hx hy
    have Hsy := Lib.hid hsy
    clear hx hmem hy hsy
    have hand : bits .and .u8 x 127 = x % 128 := u8_and127 x hx0 hx1
    by_cases h128 : x < 128
    ·
     by_cases hx00 : x = 0
     ·
      by_cases hk0 : k = 0
      ·
       have Hres : Hid (rdN xs = (s + y, (k : Int) + 1, 0)) := by
        show _ = _
        rw [← Hrd.out, Hst.out, if_pos h128, if_neg (by omega)]
       have q1 : (x == 0) = true := by simp [hx00]
       have q2 : ((k : Int) == 0) = true := by simp [hk0]
       have q3 : ¬ 0 < x := by omega
       clear hx00 hk0
       go_wp2
       go_ret3
       rw [Hres.out]
       exact ⟨rfl, rfl⟩
      ·
       have Hres : Hid (rdN xs = (0, 0, 200)) := by
        show _ = _
        rw [← Hrd.out, Hst.out, if_pos h128, if_pos ⟨hx00, by omega⟩]
       have q1 : (x == 0) = true := by simp [hx00]
       have q2 : ((k : Int) == 0) = false := by simp [hk0]
       have q3 : ¬ 0 < x := by omega
       clear hx00 hk0
       go_wp2
       go_ret3
       rw [Hres.out]
       exact ⟨rfl, rfl⟩
     ·
      have Hres : Hid (rdN xs = (s + y, (k : Int) + 1, 0)) := by
       show _ = _
       rw [← Hrd.out, Hst.out, if_pos h128, if_neg (by omega)]
      have q3 : 0 < x := by omega
      clear hx00
      go_wp2
      go_ret3
      rw [Hres.out]
      exact ⟨rfl, rfl⟩
    ·
     have Hres : Hid (rdAt xs (9 - (k + 1)) (k + 1) (s + y) = rdN xs) := by
      show _ = _
      rw [← Hrd.out, Hst.out, if_neg h128]
     have q1 : (x == 0) = false := by simp; omega
     go_wp2
     go_round
     case rel => exact ⟨k + 1, s + y, by go_num, rfl, by omega, by omega, by omega, Hsy.out, Hres⟩
     case measure => simp [intOf]; omega
   ·
    have Hres : Hid (rdN xs = (0, 0, 200)) := by
     show _ = _
     rw [← Hrd.out]
     obtain rfl : k = 9 := by omega
     rfl
    go_wp2
    go_ret3
    rw [Hres.out]
    exact ⟨rfl, rfl⟩

end Go.Proofs.YtgfmdgiepomkiaaGreat
