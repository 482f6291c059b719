/- Walks: trips.Round. -/
import Derived.Test.YtilhmlapbifbbaaCon
import Derived.Test.YtilhmlapbifbbaaRouP
import Derived.Test.YtilhmlapbifbbaaShA
import Derived.Deep.RegionLaw
import Derived.WalkMore
namespace Go.Proofs.Ytilhmlapbifbbaa
open Go.RowKit Go.Sort

theorem step_app {P : Program} {ops : Array Oper} {o : Oper} {a : Act} {w : World} {K : Act → World → Prop} {Q : Exit → Act → World → Prop} {E : Prop}
    (hgd : o.guard = none) (s x : Operand) (t : TypeId) (hop : o.op = Op.call { callee := Callee.builtin Builtin.append, args := #[s, x], argTypes := #[t, t] })
    (base : Nat) (e : TypeId) (i : TypeInfo) (z : Value) (size bytes : Nat) (ht : P.underlying t = some (.slice e)) (hi : P.info? e = some i) (hz : i.zero = some z)
    (hsize : i.size = size) (hby : i.bytes = bytes) (hzs : z.cells.size = size) (hsz : 0 < size)
    (v : Value) (n : Nat) (xs : List Value) (hs : a.eval s = v) (hown : w.ownsRow base e size v n xs)
    (ad : Addr) (m c : Nat) (news : List Value) (hx : a.eval x = .slice (some ad) m c) (hl : news.length = m * size) (hnews : ∀ j u, news[j]? = some u → w.cell? (ad.add j) = some u) (h1 : ∀ u ∈ news, u.oneCell' = true)
    (h63 : n + m ≤ maxLen) (hbytes : (n + m) * bytes ≤ 140737488355328) (hbase : base ≤ w.heap.size)
    (hK : ∀ v' w', w'.ownsRow base e size v' (n + m) (xs ++ news) → w.grownBy w' v.ownBlock → K (a.put o.dst v') w') :
    if Region.wanted o (yielded ops a.tmps) = true then Oper.wp P o a w K Q else E := by
  have hw : Region.wanted o (yielded ops a.tmps) = true := by simp [Region.wanted, hgd]
  rw [if_pos hw]
  obtain ⟨v', w', hrun, r1, r2, _⟩ := run_append_own (P := P) w base t o.type e i z size bytes ht hi hz hsize hby hzs hsz v n xs hown ad m c news hl hnews h1 h63 hbytes hbase
  unfold Oper.wp
  simp [execOp, hop, resolve, invoke, builtin, hs, hx, hrun, Result.andThen]
  exact hK v' w' r1 r2

def natI (l : List Nat) : List Int := l.map Int.ofNat
theorem natI_mem {l : List Nat} {k : Nat} : decide ((k : Int) ∈ natI l) = decide (k ∈ l) := by
  have : (k : Int) ∈ natI l ↔ k ∈ l := by
    unfold natI
    rw [List.mem_map]
    exact ⟨fun ⟨x, h1, h2⟩ => (Int.ofNat.inj h2) ▸ h1, fun h => ⟨k, h, rfl⟩⟩
  simp only [this]
theorem natI_len (l : List Nat) : (natI l).length = l.length := by simp [natI]
theorem natI_last (l : List Nat) : (natI l).getD (l.length - 1) 0 = lastN l := by
  unfold natI lastN
  rw [List.getD_eq_getElem?_getD, List.getD_eq_getElem?_getD, List.getElem?_map]
  cases l[l.length - 1]? <;> rfl
theorem natI_app (l : List Nat) (b : Nat) : natI (l ++ [b]) = natI l ++ [(b : Int)] := by simp [natI]

theorem read_past {H n : Nat} {wo w5 : World} {x : Obj} {v : Value} {xs : List Int} (hown : OwnI .i64 3 H wo.drew v n xs) (hH : H ≤ wo.heap.size) (hgrow : (wo.drew.alloc x).grownBy w5 v.ownBlock) : Below H wo w5 :=
  ((Below.refl H wo).drew.alloc hH x).grown hgrow (by simp; omega) (fun k hk => (hown.lt k hk).1)

theorem natI_own {H m p : Nat} {w5 : World} {v : Value} {l : List Nat} (h : w5.ownsRow H 3 1 v (m + 1 + 1) ((natI l).map (Value.int .i64) ++ [.int .i64 p])) (hl : l.length = m + 1) : OwnI .i64 3 H w5 v (l ++ [p]).length (natI (l ++ [p])) := by
  show w5.ownsRow _ _ _ _ _ _
  rw [natI_app, List.map_append, List.length_append, List.length_singleton, hl]
  exact h

def GoRel (t : List (List Int)) (n i : Nat) (w : World) (v x : Value) (wr : World) : Prop := ∃ (l : List Nat) (c : Int), x = .int .i64 c ∧ OwnI .i64 3 w.heap.size wr v l.length (natI l) ∧ Hid (Going t n i l c) ∧ Below w.heap.size w wr

def lenV : Value → Nat
  | .slice _ n _ => n
  | _ => 0
def costI (xs : List Int) : Int := xs.getD 0 0

set_option maxRecDepth 100000 in
set_option maxHeartbeats 2000000 in
theorem round_yes (a : Option Addr) (n c : Nat) (rs : List TRow) (i : Nat) (w : World) (hx : SlT w a n c rs) (hm : mayT (tabOf rs) = true) (hin : i < n) :
    Calls Try.prog 42 #[.slice a n c, .int .i64 i] w fun e w' => ∃ v, e = .returned (.tuple #[v, .int .i64 (goR (tabOf rs) n n [i] 0).2, .int .i64 0]) ∧ OwnI .i64 3 w.heap.size w' v (goR (tabOf rs) n n [i] 0).1.length (natI (goR (tabOf rs) n n [i] 0).1) ∧ Below w.heap.size w w' := by
  have htl := hx.tlen
  have hmax := hx.sl.max
  have hle := hx.sl.le
  obtain ⟨hn12, hsq⟩ := mayT_sq hm
  rw [htl] at hn12 hsq
  have hrn : ∀ r ∈ rs, r.n = n := fun r hr => by
    have h1 := (hx.rows r hr).len
    rw [← h1]
    exact hsq.2 _ (List.mem_map.2 ⟨r, hr, rfl⟩)
  have Hrn := Lib.hid hrn
  have Hl := Lib.hid htl
  have Hm := Lib.hid hm
  have Hsq := Lib.hid hsq
  have Hx := Lib.hid hx
  have hinI : ¬ (n : Int) ≤ (i : Int) := by omega
  have hi0 : ¬ (i : Int) < 0 := by omega
  have hd0 : decide ((i : Int) < 0) = false := by simp
  have hd1 : decide ((n : Int) ≤ (i : Int)) = false := by simpa using hinI
  obtain ⟨i0, hi, hz0, hz1, hz2⟩ := info_parts info_i64'
  clear htl hm hsq hx hrn
  go_enter Try.func42, Try.ntmps42
  go_wp2
  go_step3
  go_wp2_with (first
    | (go_at_call 38; refine (may_tab a n c rs _ Hx.out).mono ?_; rw [Hm.out]; rintro e w1 ⟨rfl, hb1⟩; have hs1 := hb1.size)
    | (at_builtin; refine wpList_append_own _ rfl _ _ 36 rfl w.heap.size 3 i0 (.int .i64 0) 1 8 Try.underlying36 hi hz0 hz1 hz2 rfl (by decide) (.slice none 0 0) 0 [] rfl (World.ownsRow_nil _ _ _ _) ⟨w1.heap.size, 0, none⟩ 1 1 [.int .i64 i] rfl rfl (cell_one_new _ _ _) (by simp [Value.oneCell']) (by unfold maxLen; omega) (by omega) (by simp; omega) ?_; intro v' w2 hown hgrow _))
  have hB2 : Below w.heap.size w w2 := (hb1.alloc hs1 _).grown hgrow (by simp; omega) (by simp [Value.ownBlock])
  have hown2 : OwnI .i64 3 w.heap.size w2 v' [i].length (natI [i]) := hown
  clear hown hgrow hb1
  go_step3
  go_wp2
  go_loopw [4, 5] (fun v x wr => GoRel (tabOf rs) n i w v x wr) (fun v _ _ => n + 1 - lenV v)
  case atStart => exact ⟨[i], 0, rfl, hown2, Going.start hin, hB2⟩
  case round =>
    clear hown2 hB2 hs1
    obtain ⟨l, cost, rfl, hown, HG, hBr⟩ := hrel
    obtain ⟨wo, rfl⟩ : ∃ wo : World, wo = wr := ⟨_, rfl⟩
    have hll := HG.out.len
    obtain ⟨m, hlm⟩ : ∃ m, l.length = m + 1 := ⟨l.length - 1, by have := HG.out.pos; omega⟩
    have hlast := HG.out.last
    have hnl := natI_last l
    have hlo := HG.out.lo
    have hhi := HG.out.hi
    rw [hlm] at hnl hown hll hhi
    rw [Nat.add_sub_cancel] at hnl
    obtain ⟨q, hq⟩ : ∃ q, q = lastN l := ⟨_, rfl⟩
    rw [← hq] at hnl hlast
    obtain ⟨av, cv, rfl, hsl⟩ := hown.reads
    have hcv := hsl.max
    have hcl := hsl.le
    obtain ⟨b, off, rfl, hc⟩ := hsl.at0 (by omega)
    have c1 := hc m (by omega)
    rw [hnl] at c1
    have hxr := Hx.out.below hBr (Nat.le_refl _)
    obtain ⟨b2, off2, r, rfl, hr, hc2, hs, ht⟩ := hxr.row hlast
    have hrn := Hrn.out r (List.mem_of_getElem? hr)
    have hmr := List.mem_of_getElem? hr
    obtain ⟨ra, rn, rc, rxs⟩ := r
    simp only at hrn hc2 hs ht
    have hrn' := hrn.symm
    clear hrn
    subst hrn'
    have hrc := hs.max
    have hrl := hs.le
    have hqI : (q : Int) < (n : Int) := by omega
    have Hs := Lib.hid hs; have Ht := Lib.hid ht; have Hsl := Lib.hid hsl; have Hown := Lib.hid hown; have Hlm := Lib.hid hlm; have Hq := Lib.hid hq; have Hmr := Lib.hid hmr
    clear hmr hs ht hsl hown hc hr hxr hnl hq hlm
    go_wp2
    go_loop [8, 39] (fun x8 x39 => ∃ (k : Nat) (best : Option Nat), x8 = .int .i64 (bestI best) ∧ x39 = .int .i64 k ∧ k ≤ n ∧ Hid (best = bestU l rxs k)) (fun _ x39 => n - (intOf x39).toNat)
    case atStart => exact ⟨0, none, rfl, rfl, Nat.zero_le _, rfl⟩
    case round =>
      obtain ⟨k, best, rfl, rfl, hk, Hbest⟩ := hrel
      by_cases hlt : k < n
      · have hltI : (k : Int) < (n : Int) := by omega
        obtain ⟨b3, off3, rfl, hc3⟩ := Hs.out.at0 (by omega)
        obtain ⟨y, hy⟩ : ∃ y, y = rxs.getD k 0 := ⟨_, rfl⟩
        have c3 := hc3 k hlt
        rw [← hy] at c3
        have Hy := Lib.hid hy
        obtain ⟨con, hcon⟩ : ∃ con, con = decide (k ∈ l) := ⟨_, rfl⟩
        have Hcon : Hid (decide (k ∈ l) = con) := hcon.symm
        cases con with
        | true =>
          have hstep : bestStep l rxs best k = best := by unfold bestStep; rw [if_pos (by simpa using Hcon.out)]
          have Hstep := Lib.hid hstep
          have Hles : Hid (lessI 0 0 = lessI 0 0) := rfl
          clear hc3 hy hcon hstep
          go_wp2_with (first | (go_at_call 77; refine (conint_any _ _ _ _ (k : Int) _ Hsl.out).mono ?_; rw [natI_mem, Hcon.out]; rintro e w5 ⟨rfl, rfl⟩) | (go_at_call 71; refine (less_any _ _ _).mono ?_; rw [Hles.out]; rintro e w6 ⟨rfl, rfl⟩))
          go_round
          case rel => exact ⟨k + 1, best, rfl, by go_num, by omega, by show _ = _; rw [bestU_succ, ← Hbest.out, Hstep.out]⟩
          case measure => simp [intOf]; omega
        | false =>
          have hnot : ¬ k ∈ l := by simpa using Hcon.out
          cases best with
          | none =>
            have hbI : bestI none = -1 := rfl
            have Hles : Hid (lessI 0 0 = lessI 0 0) := rfl
            by_cases hy1 : y = -1
            · have q1 : (y != -1) = false := by simp [hy1]
              have hstep : bestStep l rxs none k = none := by unfold bestStep; rw [if_neg hnot]; show (if rxs.getD k 0 != -1 then some k else none) = none; rw [← hy, q1]; rfl
              have Hstep := Lib.hid hstep
              clear hc3 hy hcon hstep hnot hy1
              rw [hbI]
              go_wp2_with (first | (go_at_call 77; refine (conint_any _ _ _ _ (k : Int) _ Hsl.out).mono ?_; rw [natI_mem, Hcon.out]; rintro e w5 ⟨rfl, rfl⟩) | (go_at_call 71; refine (less_any _ _ _).mono ?_; rw [Hles.out]; rintro e w6 ⟨rfl, rfl⟩))
              go_round
              case rel => exact ⟨k + 1, none, rfl, by go_num, by omega, by show _ = _; rw [bestU_succ, ← Hbest.out, Hstep.out]⟩
              case measure => simp [intOf]; omega
            · have q1 : (y != -1) = true := by simp [hy1]
              have hstep : bestStep l rxs none k = some k := by unfold bestStep; rw [if_neg hnot]; show (if rxs.getD k 0 != -1 then some k else none) = some k; rw [← hy, q1]; rfl
              have Hstep := Lib.hid hstep
              clear hc3 hy hcon hstep hnot hy1
              rw [hbI]
              go_wp2_with (first | (go_at_call 77; refine (conint_any _ _ _ _ (k : Int) _ Hsl.out).mono ?_; rw [natI_mem, Hcon.out]; rintro e w5 ⟨rfl, rfl⟩) | (go_at_call 71; refine (less_any _ _ _).mono ?_; rw [Hles.out]; rintro e w6 ⟨rfl, rfl⟩))
              go_round
              case rel => exact ⟨k + 1, some k, rfl, by go_num, by omega, by show _ = _; rw [bestU_succ, ← Hbest.out, Hstep.out]⟩
              case measure => simp [intOf]; omega
          | some p =>
            have hbI : bestI (some p) = (p : Int) := rfl
            obtain ⟨hpk, _, _⟩ := bestU_some Hbest.out.symm
            have q0 : ((p : Int) == -1) = false := by simp
            have q1 : ((p : Int) != -1) = true := by simp
            have c4 := hc3 p (by omega)
            obtain ⟨z, hz⟩ : ∃ z, z = rxs.getD p 0 := ⟨_, rfl⟩
            rw [← hz] at c4
            have hpI : (p : Int) < (n : Int) := by omega
            obtain ⟨lr, hlr⟩ : ∃ lr, lr = lessI y z := ⟨_, rfl⟩
            have Hles : Hid (lessI y z = lr) := hlr.symm
            have hstep : bestStep l rxs (some p) k = if lr then some k else some p := by unfold bestStep; rw [if_neg hnot]; simp only [← hy, ← hz, hlr]
            cases lr with
            | true =>
              have Hstep : Hid (bestStep l rxs (some p) k = some k) := hstep
              clear hc3 hy hz hcon hstep hnot hlr
              rw [hbI]
              go_wp2_with (first | (go_at_call 77; refine (conint_any _ _ _ _ (k : Int) _ Hsl.out).mono ?_; rw [natI_mem, Hcon.out]; rintro e w5 ⟨rfl, rfl⟩) | (go_at_call 71; refine (less_any _ _ _).mono ?_; rw [Hles.out]; rintro e w6 ⟨rfl, rfl⟩))
              go_round
              case rel => exact ⟨k + 1, some k, rfl, by go_num, by omega, by show _ = _; rw [bestU_succ, ← Hbest.out, Hstep.out]⟩
              case measure => simp [intOf]; omega
            | false =>
              have Hstep : Hid (bestStep l rxs (some p) k = some p) := hstep
              clear hc3 hy hz hcon hstep hnot hlr
              rw [hbI]
              go_wp2_with (first | (go_at_call 77; refine (conint_any _ _ _ _ (k : Int) _ Hsl.out).mono ?_; rw [natI_mem, Hcon.out]; rintro e w5 ⟨rfl, rfl⟩) | (go_at_call 71; refine (less_any _ _ _).mono ?_; rw [Hles.out]; rintro e w6 ⟨rfl, rfl⟩))
              go_round
              case rel => exact ⟨k + 1, some p, rfl, by go_num, by omega, by show _ = _; rw [bestU_succ, ← Hbest.out, Hstep.out]⟩
              case measure => simp [intOf]; omega
      · obtain rfl : n = k := by omega
        have hltn : ¬ (n : Int) < (n : Int) := by omega
        clear hlt
        cases best with
        | none =>
          have hbI : bestI none = -1 := rfl
          have Hst : Hid (goR (tabOf rs) n n [i] 0 = (l, cost)) := HG.out.stop (by rw [← Hq.out, Ht.out]; exact Hbest.out.symm)
          rw [hbI]
          go_wp2
          go_ret3
          rw [Hst.out]
          exact ⟨_, rfl, by rw [Hlm.out]; exact Hown.out, hBr⟩
        | some p =>
          have hbI : bestI (some p) = (p : Int) := rfl
          obtain ⟨hpk, _, _⟩ := bestU_some Hbest.out.symm
          have q0 : ((p : Int) == -1) = false := by simp
          have hstep := HG.out.step Hm.out Hl.out (b := p) (by rw [← Hq.out, Ht.out]; exact Hbest.out.symm)
          have hgz : gt (tabOf rs) (lastN l) p = rxs.getD p 0 := by rw [← Hq.out]; unfold gt; rw [Ht.out]
          obtain ⟨b3, off3, rfl, hc3⟩ := Hs.out.at0 (by omega)
          have c4 := hc3 p (by omega)
          obtain ⟨z, hz⟩ : ∃ z, z = rxs.getD p 0 := ⟨_, rfl⟩
          rw [hgz, ← hz] at hstep
          rw [← hz] at c4
          have hzl := hstep.lo
          have hzh := hstep.hi
          simp only [List.length_append, List.length_singleton, Hlm.out] at hzh
          have hpI : (p : Int) < (n : Int) := by omega
          have Hstep := Lib.hid hstep
          have hownD : OwnI .i64 3 w.heap.size wo.drew (.slice (some ⟨b, off, none⟩) (m + 1) cv) (m + 1) (natI l) := Hown.out
          have HownD := Lib.hid hownD
          have hbw : b3 < w.heap.size := by
            have h1 := Hx.out.rows _ Hmr.out
            obtain ⟨b4, off4, e4, h2⟩ := h1.at0 (show 0 < n by omega)
            cases e4
            have := World.block_lt_of_cell? w _ (h2 p (by omega))
            simpa using this
          have c6 : (wo.alloc (.cells #[.int .i64 p] 3)).cell? ⟨b3, off3 + p, none⟩ = some (.int .i64 z) := (World.cell?_alloc_past _ _ _ (World.block_lt_of_cell? wo _ c4)).trans c4
          have c7 : (wo.alloc (.cells #[.int .i64 p] 3)).drew.cell? ⟨b3, off3 + p, none⟩ = some (.int .i64 z) := c6
          clear hc3 hgz hz hstep hownD
          rw [hbI]
          go_wp2
          go_region_law (refine step_app rfl (.tmp 72) (.tmp 74) 36 rfl w.heap.size 3 i0 (.int .i64 0) 1 8 Try.underlying36 hi hz0 hz1 hz2 rfl (by decide) (.slice (some ⟨b, off, none⟩) (m + 1) cv) (m + 1) ((natI l).map (Value.int .i64)) (by simp [Act.eval, Act.put]) (HownD.out.alloc _) ⟨wo.heap.size, 0, none⟩ 1 1 [.int .i64 p] (by simp [Act.eval, Act.put]) rfl (cell_one_new _ _ _) (by simp [Value.oneCell']) (by unfold maxLen; omega) (by omega) (by have := hBr.size; simp; omega) ?_; intro v5 w5 hown5 hgrow5; have c5 : w5.cell? ⟨b3, off3 + p, none⟩ = some (.int .i64 z) := ((read_past HownD.out hBr.size hgrow5).cell (p := ⟨b3, off3 + p, none⟩) hbw).trans c4)
          all_goals obtain ⟨g5, cap5, rfl⟩ := ownsRow_succ hown5
          all_goals have hB5 : Below w.heap.size w w5 := hBr.trans (read_past HownD.out hBr.size hgrow5)
          all_goals have hO5 : OwnI .i64 3 w.heap.size w5 (.slice (some ⟨g5, 0, none⟩) (m + 1 + 1) cap5) (l ++ [p]).length (natI (l ++ [p])) := natI_own hown5 Hlm.out
          all_goals clear hown5 hgrow5
          all_goals go_simp
          all_goals go_roundw
          all_goals have hwz : IntKind.i64.wrap (cost + z) = cost + z := by rw [IntKind.wrap_i64]; omega
          all_goals first | (simp [lenV]; omega; done) | ((repeat apply Exists.intro); refine ⟨?_, rfl⟩; exact ⟨l ++ [p], cost + z, congrArg (Value.int .i64) hwz, hO5, Hstep.out, hB5⟩)

theorem round_no (a : Option Addr) (n c : Nat) (rs : List TRow) (i : Int) (w : World) (hx : SlT w a n c rs) (hno : ¬ (mayT (tabOf rs) = true ∧ 0 ≤ i ∧ i < n)) :
    Calls Try.prog 42 #[.slice a n c, .int .i64 i] w fun e w' => e = .returned (.tuple #[.slice none 0 0, .int .i64 0, .int .i64 2]) ∧ Below w.heap.size w w' := by
  have Hx := Lib.hid hx
  clear hx
  by_cases hm : mayT (tabOf rs) = true
  · have Hm := Lib.hid hm
    by_cases h0 : 0 ≤ i
    · have h1 : (n : Int) ≤ i := by
        rcases Int.lt_or_le i n with h | h
        · exact absurd ⟨hm, h0, h⟩ hno
        · exact h
      have hd0 : decide (i < 0) = false := by simpa using h0
      have hd1 : decide ((n : Int) ≤ i) = true := by simpa using h1
      clear hm hno
      go_enter Try.func42, Try.ntmps42
      go_wp2
      go_step3
      go_wp2_with (go_at_call 38; refine (may_tab a n c rs _ Hx.out).mono ?_; rw [Hm.out]; rintro e w1 ⟨rfl, hb1⟩)
      (try rw [Exit.noGoto_ret])
      go_ret3
      exact ⟨rfl, hb1⟩
    · have hd0 : decide (i < 0) = true := by simpa using h0
      clear hm hno
      go_enter Try.func42, Try.ntmps42
      go_wp2
      go_step3
      go_wp2_with (go_at_call 38; refine (may_tab a n c rs _ Hx.out).mono ?_; rw [Hm.out]; rintro e w1 ⟨rfl, hb1⟩)
      (try rw [Exit.noGoto_ret])
      go_ret3
      exact ⟨rfl, hb1⟩
  · have Hm : Hid (mayT (tabOf rs) = false) := by show _ = _; simpa using hm
    clear hm hno
    go_enter Try.func42, Try.ntmps42
    go_wp2
    go_step3
    go_wp2_with (go_at_call 38; refine (may_tab a n c rs _ Hx.out).mono ?_; rw [Hm.out]; rintro e w1 ⟨rfl, hb1⟩)
    (try rw [Exit.noGoto_ret])
    go_ret3
    exact ⟨rfl, hb1⟩

theorem round_any (a : Option Addr) (n c : Nat) (rs : List TRow) (i : Int) (w : World) (hx : SlT w a n c rs) :
    Calls Try.prog 42 #[.slice a n c, .int .i64 i] w fun e w' => ∃ v, e = .returned (.tuple #[v, .int .i64 (rouP (tabOf rs) i).2, .int .i64 (rouE (tabOf rs) i)]) ∧ OwnI .i64 3 w.heap.size w' v (rouP (tabOf rs) i).1.length (natI (rouP (tabOf rs) i).1) ∧ Below w.heap.size w w' := by
  have hl := hx.tlen
  unfold rouP rouE
  rw [hl]
  by_cases h : mayT (tabOf rs) = true ∧ 0 ≤ i ∧ i < n
  · rw [if_pos h, if_pos h]
    obtain ⟨j, rfl⟩ := Int.eq_ofNat_of_zero_le h.2.1
    exact round_yes a n c rs j w hx h.1 (by omega)
  · rw [if_neg h, if_neg h]
    refine (round_no a n c rs i w hx h).mono ?_
    rintro e w' ⟨rfl, hb⟩
    exact ⟨_, rfl, OwnI.nil _ _ _ _, hb⟩

end Go.Proofs.Ytilhmlapbifbbaa
