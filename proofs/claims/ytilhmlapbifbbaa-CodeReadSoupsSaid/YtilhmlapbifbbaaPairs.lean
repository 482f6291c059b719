/- Walks: trips.pairs, as an iterator; less; Clone of a row. -/
import Derived.Test.YtilhmlapbifbbaaTriM
import Derived.Test.YtilhmlapbifbbaaRound
namespace Go.Proofs.Ytilhmlapbifbbaa
open Go.RowKit Go.Shelf Go.Sort
attribute [local go_sem] Oper.semAt_some

/-- Pairs of places below n. -/
abbrev PrN (n : Nat) := { p : Nat × Nat // p.1 < n ∧ p.2 < n }

theorem pairs_any (n : Nat) (w : World) :
    Calls Try.prog 70 #[.int .i64 n] w fun e w' => e = .returned (.func (.func 105) #[] #[.pointer (some ⟨w.heap.size, 0, none⟩)]) ∧ w' = w.alloc (.cells #[.int .i64 n] 3) := by
  go_enter Try.func70, Try.ntmps70
  go_wp2
  go_ret
  exact ⟨rfl, rfl⟩

theorem prs_at {n k : Nat} (hk : k < n * n) : (prs n)[k]? = some (k / n, k % n) := by
  simp [prs, hk]
theorem prs_len (n : Nat) : (prs n).length = n * n := by simp [prs]
theorem prs_take {n k : Nat} (hk : k < n * n) : (prs n).take (k + 1) = (prs n).take k ++ [(k / n, k % n)] := by
  rw [List.take_add_one, prs_at hk]
  rfl

set_option maxRecDepth 100000 in
set_option maxHeartbeats 1000000 in
theorem pairs_stops (m : Nat) (hm : 1 ≤ m) (B L : Nat) (S : Nat → Prop) (n : Nat) (hn : n ≤ 12) (w : World) (hB : w.cell? ⟨B, 0, none⟩ = some (.int .i64 n)) (hL : B < L) (hS : ¬ S B) :
    SeqStopsK Fence.wide m Try.prog 105 #[.pointer (some ⟨B, 0, none⟩)] (fun x : PrN n => #[Value.agg #[.int .i64 (x.1.1 : Int), .int .i64 (x.1.2 : Int)]]) (KeepEx L S) (fun ys => ys.map Subtype.val = prs n) (fun pre => pre.map Subtype.val <+: prs n) (n * n) w := fun l J Jx W hW hJ hJx hY h0' => by
  have hBw : B < w.heap.size := by have := World.block_lt_of_cell? w _ hB; simpa using this
  have hB' : W.cell? ⟨B, 0, none⟩ = some (.int .i64 n) := (hW.cell (p := ⟨B, 0, none⟩) hBw).trans hB
  have HJ := Lib.hid hJ; clear hJ hJx
  have HY := Lib.hid hY; clear hY
  have hnn : n * n ≤ 144 := Nat.mul_le_mul hn hn
  have hmo : Try.prog.follows .mixedOrders = true := by kernel_rfl
  have hmul : (n : Int) * (n : Int) = ((n * n : Nat) : Int) := by simp
  obtain ⟨N, hN⟩ : ∃ N, N = n * n := ⟨_, rfl⟩
  rw [← hN] at hmul hnn
  have HN := Lib.hid hN; clear hN
  refine callsIn_of_wp Try.func105 rfl trivial ?_ rfl
  simp only [Try.ntmps105, List.size_toArray, List.length_cons, List.length_nil, Nat.reduceAdd, Nat.reduceSub, Array.replicate_succ, Array.replicate_zero, List.push_toArray, List.append_toArray, List.nil_append, List.cons_append]
  gi_wp2
  clear hmul
  gi_loopw [7] (fun i wr => ∃ (k : Nat) (pre : List (PrN n)), i = .int .i64 k ∧ k ≤ N ∧ wr.cell? ⟨B, 0, none⟩ = some (.int .i64 n) ∧ Hid (pre.map Subtype.val = (prs n).take k) ∧ J pre wr) (fun i _ => N - (intOf i).toNat)
  case atStart => exact ⟨0, [], rfl, Nat.zero_le _, hB', rfl, h0'⟩
  case round =>
    clear hB' h0'
    obtain ⟨k, pre, rfl, hk, hc, Hpre, hJs⟩ := hrel
    by_cases hlt : k < N
    · have hltI : (k : Int) < (N : Int) := by omega
      have hn0 : 0 < n := by
        have := HN.out
        rcases Nat.eq_zero_or_pos n with h | h
        · subst h; simp at this; omega
        · exact h
      have hkn : k < n * n := by have := HN.out; omega
      have hx1 : k / n < n := (Nat.div_lt_iff_lt_mul hn0).2 hkn
      have hx2 : k % n < n := Nat.mod_lt _ hn0
      have hpl : pre.length ≤ k := by
        have := congrArg List.length Hpre.out
        rw [List.length_map, List.length_take] at this
        omega
      obtain ⟨fn, tmps, assign, body, hy, hR⟩ := HY.out pre ⟨(k / n, k % n), hx1, hx2⟩ wr.drew (AbidesFrom.below HJ.out hJs (Below.refl _ wr).drew) (by have := HN.out; omega)
      dsimp only at hy
      push_cast at hy
      have HR := Lib.hid hR; clear hR
      gi_wp2
      refine wpIn_region_heads (late := fun j => j == 8 || j == 9) (S := fun w' => w'.cell? ⟨B, 0, none⟩ = some (.int .i64 n)) 8 (fun _ => trivial) hmo (by kernel_rfl) (by kernel_rfl) hc ?_
      simp only [List.take_succ_cons, List.take_zero, List.drop_succ_cons, List.drop_zero]
      refine wpHeads_cons (.func (.yield l) #[] #[]) rfl (fun w' s1 => by go_simp) ?_
      refine wpHeads_cons (.int .i64 k) rfl (fun w' s1 => by go_simp) ?_
      refine wpHeads_cons (.int .i64 n) rfl (fun w' s1 => by go_simp) ?_
      have hnz : ¬ n = 0 := by omega
      have aux : ∀ d : Nat, d ≤ 144 → IntKind.i64.wrap (d : Int) = (d : Int) := fun d hd => by rw [IntKind.wrap_i64]; omega
      have hw1 : IntKind.i64.wrap ((k : Int) / (n : Int)) = (k : Int) / (n : Int) := by
        have e : ((k : Int) / (n : Int)) = ((k / n : Nat) : Int) := by simp
        rw [e]
        exact aux _ (by omega)
      have hw2 : (k : Int).tmod (n : Int) = (k : Int) % (n : Int) := Int.tmod_eq_emod_of_nonneg (by omega)
      clear aux
      refine wpHeads_cons (.int .i64 ((k / n : Nat) : Int)) rfl (fun w' s1 => by go_simp) ?_
      refine wpHeads_cons (.int .i64 k) rfl (fun w' s1 => by go_simp) ?_
      refine wpHeads_cons (.int .i64 n) rfl (fun w' s1 => by go_simp) ?_
      refine wpHeads_cons (.int .i64 ((k % n : Nat) : Int)) rfl (fun w' s1 => by go_simp) ?_
      refine wpHeads_cons (.agg #[.int .i64 ((k / n : Nat) : Int), .int .i64 ((k % n : Nat) : Int)]) rfl (fun w' s1 => by go_simp) ?_
      refine wpHeads_nil ?_
      go_simp
      clear hw1 hw2
      refine wpTailT_cons rfl (fun K hK => ?_)
      gi_wp2
      refine HR.out.mono ?_
      rintro e W3 (⟨rfl, hJ3, hk3⟩ | ⟨rfl, hJx3⟩)
      · have hc3 : W3.cell? ⟨B, 0, none⟩ = some (.int .i64 n) := hk3.cell (p := ⟨B, 0, none⟩) hL hS hc
        clear hy hJs
        gi_wp2
        refine hK _ _ (fun h => by cases h) ?_
        clear hK
        refine wpTailT_cons rfl (fun K hK => ?_)
        gi_wp2
        refine hK _ _ (fun h => by cases h) ?_
        clear hK
        refine wpTailT_nil ?_
        go_simp
        gi_wp2
        go_roundw
        case rel => exact ⟨k + 1, pre ++ [⟨(k / n, k % n), hx1, hx2⟩], by go_num, by omega, hc3, by show _ = _; rw [prs_take hkn, ← Hpre.out, List.map_append]; rfl, hJ3⟩
        case measure => simp [intOf]; omega
      · clear hy hJs
        gi_wp2
        refine hK _ _ (fun h => by cases h) ?_
        clear hK
        refine wpTailT_cons rfl (fun K hK => ?_)
        gi_wp2
        refine hK _ _ (fun h => by cases h) ?_
        clear hK
        refine wpTailT_nil ?_
        go_simp
        gi_wp2
        refine bodyPost_ret (results_none rfl _ _ _) rfl ?_
        refine ⟨⟨_, rfl⟩, .inr ⟨_, ?_, hJx3⟩⟩
        rw [List.map_append, Hpre.out]
        have := prs_take hkn
        show (prs n).take k ++ [(k / n, k % n)] <+: prs n
        rw [← this]
        exact List.take_prefix _ _
    · obtain rfl : k = N := by omega
      gi_wp2
      go_end0
      refine ⟨⟨_, rfl⟩, .inl ⟨_, ?_, hJs⟩⟩
      rw [Hpre.out, List.take_of_length_le (by rw [prs_len, HN.out]; exact Nat.le_refl _)]

end Go.Proofs.Ytilhmlapbifbbaa
