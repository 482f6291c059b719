/- Walks: cells.Each: its maker, its iterator; Less. -/
import Derived.Test.YtndjljefppbmcaaCelD
import Derived.Test.YtndjljefppbmcaaCelL
import Derived.Test.YtndjljefppbmcaaRound
namespace Go.Proofs.Ytndjljefppbmcaa
open Go.RowKit Go.Shelf Go.Sort
attribute [local go_sem] Oper.semAt_some

/-- What Each has laid in block B: the columns. -/
structure EachC (B : Nat) (a : Option Addr) (n c : Nat) (l : List Cel) (w : World) : Prop where
  sl : w.cell? ⟨B, 0, none⟩ = some (.slice a n c)
  xs : SlCe w a n c l
  lt : B < w.heap.size
theorem EachC.below {B : Nat} {a : Option Addr} {n c : Nat} {l : List Cel} {w w' : World} (h : EachC B a n c l w) (hb : Below w.heap.size w w') : EachC B a n c l w' :=
  ⟨(hb.cell (p := ⟨B, 0, none⟩) h.lt).trans h.sl, h.xs.below hb (Nat.le_refl _), Nat.lt_of_lt_of_le h.lt hb.size⟩
theorem EachC.keep {B : Nat} {a : Option Addr} {n c : Nat} {l : List Cel} {w w' : World} (h : EachC B a n c l w) {L : Nat} {S : Nat → Prop} (hk : KeepEx L S w w') (hL : B < L) (h0 : ¬ S B) (ha : ∀ ad, a = some ad → n = 0 ∨ (ad.block < L ∧ ¬ S ad.block)) : EachC B a n c l w' :=
  ⟨hk.cell hL h0 h.sl, h.xs.keepEx hk ha, Nat.lt_of_lt_of_le h.lt hk.size⟩

theorem cells_ok (a b : Pt) (w : World) (ha : pointOk a = true) (hb : pointOk b = true) : Calls Try.prog 21 #[ptA a, ptA b] w fun e w' => ∃ ad n c l, e = .returned (.tuple #[.slice ad n c, .int .i64 0]) ∧ SlCe w' ad n c l ∧ n ≤ 2000 ∧ CelAt a b l ∧ Below w.heap.size w w' := by
  refine (cells_any a b w).mono ?_
  rintro e w1 ⟨ad, n, c, l, rfl, hsl, hn, hat, _, hb1⟩
  have hab : (pointOk a && pointOk b) = true := by rw [ha, hb]; rfl
  rw [if_pos hab]
  exact ⟨ad, n, c, l, rfl, hsl, hn, hat hab, hb1⟩
theorem cells_no (a b : Pt) (w : World) (h : (pointOk a && pointOk b) = false) : Calls Try.prog 21 #[ptA a, ptA b] w fun e w' => ∃ ad c, e = .returned (.tuple #[.slice ad 0 c, .int .i64 2]) ∧ Below w.heap.size w w' := by
  refine (cells_any a b w).mono ?_
  rintro e w1 ⟨ad, n, c, l, rfl, hsl, _, _, hat, hb1⟩
  have hn := hsl.len
  rw [hat h] at hn
  obtain rfl : 0 = n := hn
  rw [if_neg (by rw [h]; exact Bool.false_ne_true)]
  exact ⟨ad, c, rfl, hb1⟩
/-- What Each answers. -/
def eachPost (a b : Pt) (w : World) (e : Ending) (w' : World) : Prop := ∃ B ad n c l, e = .returned (.func (.func 106) #[] #[.pointer (some ⟨B, 0, none⟩)]) ∧ Below w.heap.size w w' ∧ EachC B ad n c l w' ∧ CelAt a b l ∧ n ≤ 2000 ∧ w.heap.size ≤ B
set_option maxHeartbeats 400000 in
theorem celleach_any (a b : Pt) (w : World) (ha : pointOk a = true) (hb : pointOk b = true) :
    Calls Try.prog 58 #[ptA a, ptA b] w (eachPost a b w) := by
  have hB : Below w.heap.size w ((w.alloc (.cells #[.int .i64 a.x, .int .i64 a.z] 36)).alloc (.cells #[.int .i64 b.x, .int .i64 b.z] 36)) := ((Below.refl _ _).alloc (Nat.le_refl _) _).alloc (by simp) _
  have CA := Lib.hid (fun W => cells_ok a b W ha hb)
  clear ha hb
  obtain ⟨ax, az⟩ := a
  obtain ⟨bx, bz⟩ := b
  simp only at hB
  go_enter Try.func58, Try.ntmps58
  go_wp2_with fail
  refine (CA.out _).mono ?_
  rintro e w1 ⟨ad, n, c, l, rfl, hsl, hn, hat, hb1⟩
  have hB1 := hB.trans (hb1.mono hB.size)
  have Hat := Lib.hid hat
  clear hat hB hb1
  have HF : Hid (eachPost ⟨ax, az⟩ ⟨bx, bz⟩ w (.returned (.func (.func 106) #[] #[.pointer (some ⟨w1.heap.size, 0, none⟩)])) (w1.alloc (.cells #[.slice ad n c] 37))) :=
    ⟨w1.heap.size, ad, n, c, l, rfl, hB1.alloc hB1.size _, ⟨by rw [World.cell?_alloc_at _ _ _ _ rfl]; rfl, hsl.alloc _, by simp⟩, Hat.out, hn, hB1.size⟩
  clear hsl hB1
  go_wp2
  go_ret
  exact HF.out

/-- The columns and their numbers. -/
def ixs (l : List Cel) (k : Nat) : List (Nat × Cel) := (l.take k).zipIdx.map fun p => (p.2, p.1)
theorem ixs_zero (l : List Cel) : ixs l 0 = [] := rfl
theorem ixs_succ {l : List Cel} {k : Nat} {c : Cel} (h : l[k]? = some c) : ixs l (k + 1) = ixs l k ++ [(k, c)] := by
  have hk : k < l.length := (List.getElem?_eq_some_iff.1 h).1
  have hl : (l.take k).length = k := by rw [List.length_take]; omega
  unfold ixs
  rw [List.take_add_one, h, Option.toList_some, List.zipIdx_append, List.map_append, hl]
  simp
theorem ixs_len (l : List Cel) (k : Nat) : (ixs l k).length ≤ k := by
  unfold ixs
  rw [List.length_map, List.length_zipIdx, List.length_take]
  omega
theorem ixs_prefix (l : List Cel) (k : Nat) : ixs l k <+: ixs l l.length := by
  unfold ixs
  rw [List.take_length]
  refine List.IsPrefix.map _ ?_
  conv => rhs; rw [← List.take_append_drop k l]
  rw [List.zipIdx_append]
  exact List.prefix_append _ _
theorem ixs_snd (l : List Cel) (k : Nat) : (ixs l k).map Prod.snd = l.take k := by
  unfold ixs
  rw [List.map_map]
  have : (Prod.snd ∘ fun p : Cel × Nat => (p.2, p.1)) = Prod.fst := rfl
  rw [this, List.zipIdx_map_fst]
theorem SlCe.cells {w : World} {b off : Nat} {l : List Cel} (h : ∀ i x, l[i]? = some x → ∀ j v, (ceC x)[j]? = some v → w.cell? ⟨b, off + i * 6 + j, none⟩ = some v) {k : Nat} {x : Cel} (hx : l[k]? = some x) :
    w.cell? ⟨b, off + k * 6, none⟩ = some (.int .i64 x.x) ∧ w.cell? ⟨b, off + k * 6 + 1, none⟩ = some (.int .i64 x.z) ∧ w.cell? ⟨b, off + k * 6 + 2, none⟩ = some (.int .i64 x.p.n) ∧ w.cell? ⟨b, off + k * 6 + 3, none⟩ = some (.int .i64 x.p.d) ∧ w.cell? ⟨b, off + k * 6 + 4, none⟩ = some (.int .i64 x.q.n) ∧ w.cell? ⟨b, off + k * 6 + 5, none⟩ = some (.int .i64 x.q.d) :=
  ⟨h k x hx 0 _ rfl, h k x hx 1 _ rfl, h k x hx 2 _ rfl, h k x hx 3 _ rfl, h k x hx 4 _ rfl, h k x hx 5 _ rfl⟩

set_option maxRecDepth 100000 in
set_option maxHeartbeats 2000000 in
theorem celleach_stops (m : Nat) (hm : 1 ≤ m) (B L : Nat) (S : Nat → Prop) (a : Option Addr) (n c : Nat) (l : List Cel) (w : World) (he : EachC B a n c l w) (hL : B < L) (h0 : ¬ S B) (ha : ∀ ad, a = some ad → n = 0 ∨ (ad.block < L ∧ ¬ S ad.block)) :
    SeqStopsK Fence.wide m Try.prog 106 #[.pointer (some ⟨B, 0, none⟩)] (fun x : Nat × Cel => #[Value.int .i64 (x.1 : Int), ceA x.2]) (KeepEx L S) (fun ys => ys = ixs l l.length) (fun pre => pre <+: ixs l l.length) n w := fun lb J Jx W hW hJ hJx hY h0' => by
  have he' := he.below hW
  have Hl := Lib.hid he.xs.len
  have hle := he.xs.le
  have hmax := he.xs.max
  have HJ := Lib.hid hJ; clear hJ hJx
  have HY := Lib.hid hY; clear hY
  have Ha := Lib.hid ha; clear ha
  refine callsIn_of_wp Try.func106 rfl trivial ?_ rfl
  simp only [Try.ntmps106, List.size_toArray, List.length_cons, List.length_nil, Nat.reduceAdd, Nat.reduceSub, Array.replicate_succ, Array.replicate_zero, List.push_toArray, List.append_toArray, List.nil_append, List.cons_append]
  have q1 := he'.sl
  gi_wp2
  gi_loopw [7] (fun i wr => ∃ (k : Nat) (pre : List (Nat × Cel)), i = .int .i64 k ∧ k ≤ n ∧ EachC B a n c l wr ∧ pre = ixs l k ∧ J pre wr) (fun i _ => n - (intOf i).toNat)
  case atStart => exact ⟨0, [], rfl, Nat.zero_le _, he', rfl, h0'⟩
  case round =>
    clear q1 he' h0'
    obtain ⟨k, pre, rfl, hk, he2, hpre, hJs⟩ := hrel
    have Hpre := Lib.hid hpre; clear hpre
    by_cases hlt : k < n
    · obtain ⟨x, hxk⟩ : ∃ x, l[k]? = some x := ⟨_, List.getElem?_eq_getElem (by rw [Hl.out]; exact hlt)⟩
      have hkl : pre.length ≤ k := by rw [Hpre.out]; exact ixs_len l k
      have hltI : (k : Int) < (n : Int) := by omega
      obtain ⟨b, off, rfl, hbl, hc⟩ := he2.xs.at0 (by omega)
      obtain ⟨c0, c1, c2, c3, c4, c5⟩ := SlCe.cells hc hxk
      have Hxk := Lib.hid hxk; clear hxk hc
      have He2 := Lib.hid he2; clear he2
      have hbW : Below wr.heap.size wr (wr.alloc (.cells #[.int .i64 x.x, .int .i64 x.z, .int .i64 x.p.n, .int .i64 x.p.d, .int .i64 x.q.n, .int .i64 x.q.d] 43)) := (Below.refl _ _).alloc (Nat.le_refl _) _
      have hJ1 : J pre (wr.alloc (.cells #[.int .i64 x.x, .int .i64 x.z, .int .i64 x.p.n, .int .i64 x.p.d, .int .i64 x.q.n, .int .i64 x.q.d] 43)) := AbidesFrom.below HJ.out hJs hbW
      have He3 : Hid (EachC B (some ⟨b, off, none⟩) n c l (wr.alloc (.cells #[.int .i64 x.x, .int .i64 x.z, .int .i64 x.p.n, .int .i64 x.p.d, .int .i64 x.q.n, .int .i64 x.q.d] 43))) := He2.out.below hbW
      obtain ⟨fn, tmps, assign, body, hy, hR⟩ := HY.out pre (k, x) _ hJ1 (by omega)
      dsimp only at hy
      have HR := Lib.hid hR; clear hR
      obtain ⟨xx, xz, ⟨xpn, xpd⟩, ⟨xqn, xqd⟩⟩ := x
      simp only at c0 c1 c2 c3 c4 c5 hy
      clear hJs He2 hbW
      gi_wp2
      refine HR.out.mono ?_
      rintro e W3 (⟨rfl, hJ3, hk3⟩ | ⟨rfl, hJx3⟩)
      · clear hJ1 hy HR c0 c1 c2 c3 c4 c5
        gi_wp2
        go_roundw
        case rel => exact ⟨k + 1, pre ++ [(k, _)], by go_num, by omega, He3.out.keep hk3 hL h0 Ha.out, by rw [ixs_succ Hxk.out, Hpre.out], hJ3⟩
        case measure => simp [intOf]; omega
      · clear hJ1 hy HR c0 c1 c2 c3 c4 c5
        gi_wp2
        refine bodyPost_ret (results_none rfl _ _ _) rfl ?_
        refine ⟨⟨_, rfl⟩, .inr ⟨_, ?_, hJx3⟩⟩
        rw [Hpre.out, ← ixs_succ Hxk.out]
        exact ixs_prefix l _
    · obtain rfl : k = n := by omega
      gi_wp2
      go_end0
      refine ⟨⟨_, rfl⟩, .inl ⟨pre, by rw [Hl.out]; exact Hpre.out, ?_⟩⟩
      exact hJs

/-! ### Less -/
attribute [local go_sem] Instr.index
set_option maxRecDepth 100000 in
set_option maxHeartbeats 2000000 in
theorem cless_any (p q : Rt) (w : World) (hp : RtSmall 1073741824 p) (hq : RtSmall 1073741824 q) :
    Calls Try.prog 23 #[rtA p, rtA q] w fun e w' => e = .returned (.bool (decide (ltR p q))) ∧ Below w.heap.size w w' := by
  have CP := Lib.hid (fun W => compare_any p q W hp hq)
  obtain ⟨r, hr⟩ : ∃ r, Hid (r = decide (ltR p q)) := ⟨_, rfl⟩
  rw [← hr.out]
  have HR : Hid (r = decide (cmpR p q < 0)) := by show _ = _; rw [hr.out]; exact decide_eq_decide.2 cmpR_neg.symm
  clear hr
  generalize cmpR p q = u at CP HR
  obtain ⟨pn, pd⟩ := p
  obtain ⟨qn, qd⟩ := q
  obtain ⟨p1, p2, p3, p4⟩ := hp
  obtain ⟨q1, q2, q3, q4⟩ := hq
  simp only at p1 p2 p3 p4 q1 q2 q3 q4
  have i1 : ¬ pd < 1 := by omega
  have i2 : ¬ 1073741824 < pd := by omega
  have i3 : ¬ pn < -1073741824 := by omega
  have i4 : ¬ 1073741824 < pn := by omega
  have j1 : ¬ qd < 1 := by omega
  have j2 : ¬ 1073741824 < qd := by omega
  have j3 : ¬ qn < -1073741824 := by omega
  have j4 : ¬ 1073741824 < qn := by omega
  have hB : Below w.heap.size w ((w.alloc (.cells #[.int .i64 pn, .int .i64 pd] 41)).alloc (.cells #[.int .i64 qn, .int .i64 qd] 41)) := ((Below.refl _ _).alloc (Nat.le_refl _) _).alloc (by simp) _
  clear p1 p2 p3 p4 q1 q2 q3 q4
  go_enter Try.func23, Try.ntmps23
  go_wp2
  refine wp_loop_rounds 3 ?_
  rw [rounds_succ]
  go_wp2
  rw [rounds_succ]
  go_wp2
  rw [rounds_succ]
  go_wp2_with fail
  refine (CP.out _).mono ?_
  rintro e w1 ⟨rfl, hb1⟩
  go_wp2
  go_ret
  exact ⟨ret_bool HR.out.symm, ((hB.alloc hB.size _).alloc (by simp; omega) _).trans (hb1.mono (by simp; omega))⟩

end Go.Proofs.Ytndjljefppbmcaa
