/- Plain: a soup's numbers and their bytes; 'put' behind a slice that is built for it. -/
import Derived.Test.YtgfmdgiepomkiaaGreatLc
import Derived.Test.YtgfmdgiepomkiaaGreatKb
import Derived.Test.YtgfmdgiepomkiaaGreatNumV
import Derived.Laws.StructEq
namespace Go.Proofs.YtgfmdgiepomkiaaGreat
open Go.RowKit

def vtxN (v : Vtx) : List Int := [v.x, zig v.y, v.z]
def triN (t : Tri3) : List Int := t.id :: (vtxN t.v0 ++ (vtxN t.v1 ++ vtxN t.v2))
def bxN (b : Bx) : List Int := [b.id, b.x0, b.z0, b.x1, b.z1, zig b.y0, zig b.y1, b.area]
def bothN (b : Bool) : Int := if b then 1 else 0
def sptN (s : Spt) : List Int := [s.x, s.z, zig s.y]
def hpN (h : Hp) : List Int := [h.id, h.a.x, h.a.z, zig h.a.y, h.b.x, h.b.z, zig h.b.y, bothN h.both, h.area, h.cost]
def cfgN (c : Cfg) : List Int := [c.clear, c.climb, c.height, c.rise, c.run, c.w, c.d]
/-- What stands ahead of the triangles; of the boxes; of the hops; all. -/
def soupN0 (c : Cfg) (s : Sou) : List Int := cfgN c ++ [(s.t.length : Int)]
def soupN1 (c : Cfg) (s : Sou) : List Int := soupN0 c s ++ s.t.flatMap triN ++ [(s.b.length : Int)]
def soupN2 (c : Cfg) (s : Sou) : List Int := soupN1 c s ++ s.b.flatMap bxN ++ [(s.h.length : Int)]
def soupN (c : Cfg) (s : Sou) : List Int := soupN2 c s ++ s.h.flatMap hpN
def soupB (c : Cfg) (s : Sou) : List Int := if soupE c s = 0 then encs (soupN c s) else []

theorem encs_append (a b : List Int) : encs (a ++ b) = encs a ++ encs b := by simp [encs]
theorem encs_cons (x : Int) (l : List Int) : encs (x :: l) = enc x.toNat ++ encs l := by simp [encs]
theorem flatMap_take_succ {α : Type} {f : α → List Int} {l : List α} {k : Nat} {x : α} (h : l[k]? = some x) : (l.take (k + 1)).flatMap f = (l.take k).flatMap f ++ f x := by
 rw [List.take_add_one, h]
 simp

theorem rowOk_mem {α : Type} {id : α → Int} {ok : α → Bool} : ∀ {l : List α} {last : Int}, rowOk id ok last l = true → ∀ x ∈ l, idOk (id x) = true ∧ ok x = true := by
 intro l
 induction l with
 | nil => intro _ _ x hx; cases hx
 | cons y l ih =>
  intro last h x hx
  rw [rowOk] at h
  simp only [Bool.and_eq_true] at h
  rcases List.mem_cons.1 hx with rfl | hx
  ·
   exact ⟨h.1.1.1, h.1.1.2⟩
  ·
   exact ih h.2 x hx

theorem idOk_le {n : Int} (h : idOk n = true) : 0 ≤ n ∧ n ≤ 1073741824 := by
 unfold idOk at h
 simp only [Bool.and_eq_true, decide_eq_true_eq] at h
 omega
theorem hgtOk_le {n : Int} (h : hgtOk n = true) : -2048 ≤ n ∧ n ≤ 2048 := by
 unfold hgtOk at h
 simpa only [Bool.and_eq_true, decide_eq_true_eq] using h
def VtxF (v : Vtx) : Prop := (0 ≤ v.x ∧ v.x ≤ 32) ∧ (-2048 ≤ v.y ∧ v.y ≤ 2048) ∧ (0 ≤ v.z ∧ v.z ≤ 32)
def TriF (t : Tri3) : Prop := (0 ≤ t.id ∧ t.id ≤ 1073741824) ∧ VtxF t.v0 ∧ VtxF t.v1 ∧ VtxF t.v2
def BxF (b : Bx) : Prop := (0 ≤ b.id ∧ b.id ≤ 1073741824) ∧ (0 ≤ b.x0 ∧ b.x0 ≤ 32) ∧ (0 ≤ b.z0 ∧ b.z0 ≤ 32) ∧ (0 ≤ b.x1 ∧ b.x1 ≤ 32) ∧ (0 ≤ b.z1 ∧ b.z1 ≤ 32) ∧ (-2048 ≤ b.y0 ∧ b.y0 ≤ 2048) ∧ (-2048 ≤ b.y1 ∧ b.y1 ≤ 2048) ∧ (0 ≤ b.area ∧ b.area ≤ 7)
def SptF (s : Spt) : Prop := (0 ≤ s.x ∧ s.x ≤ 32) ∧ (0 ≤ s.z ∧ s.z ≤ 32) ∧ (-2048 ≤ s.y ∧ s.y ≤ 2048)
def HpF (h : Hp) : Prop := (0 ≤ h.id ∧ h.id ≤ 1073741824) ∧ SptF h.a ∧ SptF h.b ∧ (0 ≤ h.area ∧ h.area ≤ 7) ∧ (0 ≤ h.cost ∧ h.cost ≤ 1048576)
def CfgF (c : Cfg) : Prop := (0 ≤ c.clear ∧ c.clear ≤ 3) ∧ (0 ≤ c.climb ∧ c.climb ≤ 8) ∧ (0 ≤ c.height ∧ c.height ≤ 32) ∧ (0 ≤ c.rise ∧ c.rise ≤ 100) ∧ (0 ≤ c.run ∧ c.run ≤ 100) ∧ (1 ≤ c.w ∧ c.w ≤ 32) ∧ (1 ≤ c.d ∧ c.d ≤ 32)
theorem vtxOk_F {w d : Int} (hw : w ≤ 32) (hd : d ≤ 32) {v : Vtx} (h : vtxOk w d v = true) : VtxF v := by
 unfold vtxOk at h
 simp only [Bool.and_eq_true, decide_eq_true_eq] at h
 have := hgtOk_le h.2
 refine ⟨⟨h.1.1.1.1, by omega⟩, this, h.1.1.2, by omega⟩
theorem triOk_F {w d : Int} (hw : w ≤ 32) (hd : d ≤ 32) {t : Tri3} (hi : idOk t.id = true) (h : triOk w d t = true) : TriF t := by
 unfold triOk at h
 simp only [Bool.and_eq_true] at h
 exact ⟨idOk_le hi, vtxOk_F hw hd h.1.1.1, vtxOk_F hw hd h.1.1.2, vtxOk_F hw hd h.1.2⟩
theorem bxOk_F {w d : Int} (hw : w ≤ 32) (hd : d ≤ 32) {b : Bx} (hi : idOk b.id = true) (h : bxOk w d b = true) : BxF b := by
 unfold bxOk at h
 simp only [Bool.and_eq_true, decide_eq_true_eq] at h
 have h0 := hgtOk_le h.1.2.1.1
 have h1 := hgtOk_le h.1.2.1.2
 refine ⟨idOk_le hi, ?_, ?_, ?_, ?_, h0, h1, h.2⟩ <;> omega
theorem sptOk_F {w d : Int} (hw : w ≤ 32) (hd : d ≤ 32) {s : Spt} (h : sptOk w d s = true) : SptF s := by
 unfold sptOk at h
 simp only [Bool.and_eq_true, decide_eq_true_eq] at h
 exact ⟨⟨h.1.1.1, by omega⟩, ⟨h.1.2.1, by omega⟩, hgtOk_le h.2⟩
theorem hpOk_F {w d : Int} (hw : w ≤ 32) (hd : d ≤ 32) {x : Hp} (hi : idOk x.id = true) (h : hpOk w d x = true) : HpF x := by
 unfold hpOk at h
 simp only [Bool.and_eq_true, decide_eq_true_eq] at h
 exact ⟨idOk_le hi, sptOk_F hw hd h.1.1.1, sptOk_F hw hd h.1.1.2, by omega, h.2⟩
theorem cfgOk_F {c : Cfg} (h : cfgOk c = true) : CfgF c := by
 unfold cfgOk at h
 have := of_decide_eq_true h
 unfold CfgF
 omega
/-- All of a soup that may be is small. -/
structure SoupF (c : Cfg) (s : Sou) : Prop where
 c : CfgF c
 t : ∀ x ∈ s.t, TriF x
 b : ∀ x ∈ s.b, BxF x
 h : ∀ x ∈ s.h, HpF x
 nt : s.t.length ≤ 200
 nb : s.b.length ≤ 16
 nh : s.h.length ≤ 16
theorem soupE_F {c : Cfg} {s : Sou} (h : soupE c s = 0) : SoupF c s := by
 unfold soupE at h
 by_cases hc : cfgOk c = true
 ·
  rw [if_pos hc] at h
  have hcf := cfgOk_F hc
  have hw : c.w ≤ 32 := hcf.2.2.2.2.2.1.2
  have hd : c.d ≤ 32 := hcf.2.2.2.2.2.2.2
  by_cases ha : (trisOk c s.t && boxesOk c s.b && hopsOk c s.h) = true
  ·
   simp only [Bool.and_eq_true, trisOk, boxesOk, hopsOk, decide_eq_true_eq] at ha
   exact ⟨hcf, fun x hx => let q := rowOk_mem ha.1.1.2 x hx; triOk_F hw hd q.1 q.2, fun x hx => let q := rowOk_mem ha.1.2.2 x hx; bxOk_F hw hd q.1 q.2,
    fun x hx => let q := rowOk_mem ha.2.2 x hx; hpOk_F hw hd q.1 q.2, ha.1.1.1, ha.1.2.1, ha.2.1⟩
  ·
   rw [if_neg ha] at h; cases h
 ·
  rw [if_neg hc] at h; cases h
theorem zig_le4 {y : Int} (h : -2048 ≤ y ∧ y ≤ 2048) : (zig y : Int) ≤ 4096 := by unfold zig; split <;> omega
/-- The numbers that are written. -/
def numOk (x : Int) : Prop := 0 ≤ x ∧ x ≤ 4398046511104
theorem numOk_i64 {x : Int} (h : numOk x) : 0 ≤ x ∧ x ≤ 9223372036854775807 := by unfold numOk at h; omega
theorem vtxN_ok {v : Vtx} (h : VtxF v) : ∀ x ∈ vtxN v, numOk x := by
 intro x hx
 have hz := zig_le4 h.2.1
 unfold VtxF at h
 simp only [vtxN, List.mem_cons, List.not_mem_nil, or_false] at hx
 unfold numOk
 omega
theorem bxN_ok {b : Bx} (h : BxF b) : ∀ x ∈ bxN b, numOk x := by
 intro x hx
 have hz := zig_le4 h.2.2.2.2.2.1
 have hz1 := zig_le4 h.2.2.2.2.2.2.1
 unfold BxF at h
 simp only [bxN, List.mem_cons, List.not_mem_nil, or_false] at hx
 unfold numOk
 omega
theorem hpN_ok {t : Hp} (h : HpF t) : ∀ x ∈ hpN t, numOk x := by
 intro x hx
 have hz := zig_le4 h.2.1.2.2
 have hz1 := zig_le4 h.2.2.1.2.2
 unfold HpF SptF at h
 simp only [hpN, List.mem_cons, List.not_mem_nil, or_false] at hx
 have hb : 0 ≤ bothN t.both ∧ bothN t.both ≤ 1 := by unfold bothN; split <;> omega
 unfold numOk
 omega
theorem cfgN_ok {c : Cfg} (h : CfgF c) : ∀ x ∈ cfgN c, numOk x := by
 intro x hx
 unfold CfgF at h
 simp only [cfgN, List.mem_cons, List.not_mem_nil, or_false] at hx
 unfold numOk
 omega
theorem encs_len {l : List Int} {m : Nat} (hm : l.length = m) (h : ∀ x ∈ l, numOk x) : (encs l).length ≤ 9 * m := by
 have := encs_length_le l (fun x hx => (numOk_i64 (h x hx)).2)
 omega

theorem ncell {w0 W : World} {p : Addr} {v : Value} (h : Below w0.heap.size w0 W) (hc : w0.cell? p = some v) : W.cell? p = some v := (h.cell (World.block_lt_of_cell? w0 _ hc)).trans hc

theorem put_new (B : Nat) (v : Value) (n : Nat) (xs ns : List Int) (m j : Nat) (w : World) (hm : ns.length = m) (hj : w.heap.size = j) (hown : OwnI .u8 5 B w v n xs) (hB : B ≤ w.heap.size)
  (hr : ∀ x ∈ ns, numOk x) (hm63 : m ≤ 1000) (hn : n + 9 * m ≤ 1099511627776) :
  Calls Tryz.prog 19 #[v, .slice (some ⟨j, 0, none⟩) m m] (w.alloc (.cells (ns.map (Value.int .i64)).toArray 3)) fun e w' => ∃ v', e = .returned v' ∧ OwnI .u8 5 B w' v' (n + (encs ns).length) (xs ++ encs ns) ∧ Appd w w' v v' := by
 subst hm
 subst hj
 refine (put_any B v n xs (some ⟨w.heap.size, 0, none⟩) ns.length ns.length ns _ (hown.alloc _) (by simp; omega) (SlI.lits w ns _ (by omega)) (fun x hx => numOk_i64 (hr x hx)) ?_ hn).mono ?_
 ·
  intro ad had
  cases had
  intro h
  have := hown.lt _ h
  simp at this
 ·
  rintro e w' ⟨v', rfl, ho, hp⟩
  exact ⟨v', rfl, ho, (Appd.alloc (Appd.refl w v) _).trans hp⟩

theorem cell_past {w : World} {p : Addr} {v : Value} {o : Obj} (h : w.cell? p = some v) : (w.alloc o).cell? p = some v := (World.cell?_alloc_some w p o (by rw [h]; rfl)).trans h
theorem bel_put {B : Nat} {w1 W W' : World} {o : Obj} {v v' : Value} {n : Nat} {xs : List Int} (hb : Below B w1 W) (hB : B ≤ W.heap.size) (ho : OwnI .u8 5 B W v n xs) (hp : Appd (W.alloc o) W' v v') : Below B w1 W' :=
 (hb.alloc hB o).trans (hp.below (by simp; omega) ho.le)
theorem bel_put' {B : Nat} {w1 W W' : World} {o : Obj} {v v' : Value} {n : Nat} {xs : List Int} (hb : Below B w1 W) (hB : B ≤ W.heap.size) (ho : OwnI .u8 5 B W v n xs) (hp : Appd (W.alloc o).drew W' v v') : Below B w1 W' :=
 ((hb.alloc hB o).drew).trans (hp.below (by simp [World.drew]; omega) ho.le)

set_option maxHeartbeats 400000 in
theorem bit_any (b : Bool) (w : World) : Calls Tryz.prog 21 #[.bool b] w fun e w' => e = .returned (.int .i64 (bothN b)) ∧ w' = w := by
 cases b <;> (go_enter Tryz.func21, Tryz.ntmps21; go_wp2; go_ret; exact ⟨ret_int rfl, rfl⟩)

end Go.Proofs.YtgfmdgiepomkiaaGreat

namespace Go.Proofs.YtgfmdgiepomkiaaGreat
open Go.RowKit Go.Sort

theorem vtx_beq (a b : Vtx) : decide (a = b) = (a.x == b.x && (a.y == b.y && a.z == b.z)) := by
 obtain ⟨x0, x1, x2⟩ := a
 obtain ⟨y0, y1, y2⟩ := b
 by_cases h1 : x0 = y0 <;> by_cases h2 : x1 = y1 <;> by_cases h3 : x2 = y2 <;> simp [h1, h2, h3]
theorem ok_eq {α : Type} {a b : α} {w : World} (h : a = b) : Result.ok a w = Result.ok b w := by rw [h]

section
variable (w : World)
theorem eqVerts (a0 a1 a2 b0 b1 b2 : Vtx) : (Op.equalIn 9999 60 (.agg #[.int .i64 a0.x, .int .i64 a0.y, .int .i64 a0.z, .int .i64 a1.x, .int .i64 a1.y, .int .i64 a1.z, .int .i64 a2.x, .int .i64 a2.y, .int .i64 a2.z]) (.agg #[.int .i64 b0.x, .int .i64 b0.y, .int .i64 b0.z, .int .i64 b1.x, .int .i64 b1.y, .int .i64 b1.z, .int .i64 b2.x, .int .i64 b2.y, .int .i64 b2.z])).run Tryz.prog w = .ok (decide (a0 = b0) && (decide (a1 = b1) && decide (a2 = b2))) w := by
 have u3 := Tryz.underlying59
 have a3 := Tryz.isAgg59
 have z3 := Tryz.sizeOf59
 rw [show (9999 : Nat) = 9998 + 1 from rfl, Op.equalIn]
 simp only [Sem.run_bind, run_underlying Tryz.underlying60, Result.andThen_ok]
 simp only [Std.Legacy.Range.forIn_eq_forIn_range', Std.Legacy.Range.size, Nat.sub_zero, Nat.add_sub_cancel, Nat.div_one, List.range'_succ, List.range'_zero, List.forIn_cons, List.forIn_nil]
 go_simp
 rw [vtx_beq, vtx_beq, vtx_beq]
 repeat' split
 all_goals simp_all
end

end Go.Proofs.YtgfmdgiepomkiaaGreat
