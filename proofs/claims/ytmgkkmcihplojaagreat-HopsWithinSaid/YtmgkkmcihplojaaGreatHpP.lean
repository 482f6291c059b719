/- Plain law: the floors of a column that are near a height; the nearest of them. -/
import Derived.Test.YtmgkkmcihplojaaGreatSmA
import Derived.Test.YtmgkkmcihplojaaGreatKa
namespace Go.Proofs.YtmgkkmcihplojaaGreat

/-- A floor that was found: its tile, its rectangle, its height. -/
structure Fd where
  i : Nat
  k : Nat
  y : Int
deriving DecidableEq
def offD (y0 y : Int) : Int := max (y - y0) (y0 - y)
def fdAny (x z : Int) (i k : Nat) (r : Rc) : List Fd := match rcAt r x z with
  | some f => [⟨i, k, f.y⟩]
  | none => []
def wiD (y0 wi : Int) (d : Fd) : Bool := decide (offD y0 d.y ≤ wi)
def fdOne (x z y0 wi : Int) (i k : Nat) (r : Rc) : List Fd := (fdAny x z i k r).filter (wiD y0 wi)
def fdRow (x z y0 wi : Int) (i : Nat) (rs : List Rc) (k : Nat) : List Fd := (List.range k).flatMap fun j => fdOne x z y0 wi i j (rs.getD j rcN0)
def fdTo (x z y0 wi : Int) (ts : List (List Rc)) (n : Nat) : List Fd := (List.range n).flatMap fun j => fdRow x z y0 wi j (ts.getD j []) (ts.getD j []).length
/-- All floors of a column. -/
def fdAll (x z : Int) (ts : List (List Rc)) : List Fd := (List.range ts.length).flatMap fun i => (List.range (ts.getD i []).length).flatMap fun j => fdAny x z i j ((ts.getD i []).getD j rcN0)
theorem fdRow_succ (x z y0 wi : Int) (i : Nat) (rs : List Rc) (k : Nat) : fdRow x z y0 wi i rs (k + 1) = fdRow x z y0 wi i rs k ++ fdOne x z y0 wi i k (rs.getD k rcN0) := by
  unfold fdRow
  rw [List.range_succ, List.flatMap_append, List.flatMap_cons, List.flatMap_nil, List.append_nil]
theorem fdTo_succ (x z y0 wi : Int) (ts : List (List Rc)) (k : Nat) : fdTo x z y0 wi ts (k + 1) = fdTo x z y0 wi ts k ++ fdRow x z y0 wi k (ts.getD k []) (ts.getD k []).length := by
  unfold fdTo
  rw [List.range_succ, List.flatMap_append, List.flatMap_cons, List.flatMap_nil, List.append_nil]
theorem fdOne_no {x z y0 wi : Int} {i k : Nat} {r : Rc} (h : (rcAt r x z).isSome = false) : fdOne x z y0 wi i k r = [] := by
  unfold fdOne fdAny
  cases e : rcAt r x z with
  | none => rfl
  | some f => rw [e] at h; cases h
theorem fdOne_far {x z y0 wi : Int} {i k : Nat} {r : Rc} (h : ¬ offD y0 (rcF r x z).y ≤ wi) : fdOne x z y0 wi i k r = [] := by
  unfold rcF at h
  unfold fdOne fdAny
  cases e : rcAt r x z with
  | none => rfl
  | some f =>
    rw [e] at h
    simp only [Option.getD_some] at h
    simp [wiD, h]
theorem fdOne_in {x z y0 wi : Int} {i k : Nat} {r : Rc} (hs : (rcAt r x z).isSome = true) (h : offD y0 (rcF r x z).y ≤ wi) : fdOne x z y0 wi i k r = [⟨i, k, (rcF r x z).y⟩] := by
  unfold rcF at *
  unfold fdOne fdAny
  cases e : rcAt r x z with
  | none => rw [e] at hs; cases hs
  | some f =>
    rw [e] at h
    simp only [Option.getD_some] at h ⊢
    simp [wiD, h]
theorem fdTo_filter (x z y0 wi : Int) (ts : List (List Rc)) : fdTo x z y0 wi ts ts.length = (fdAll x z ts).filter (wiD y0 wi) := by
  unfold fdTo fdAll fdRow fdOne
  simp only [List.filter_flatMap]
/-- Is one ahead of another: nearer, or as near and lower? -/
def lessD (y0 : Int) (a b : Fd) : Bool := decide (offD y0 a.y < offD y0 b.y) || decide (offD y0 a.y = offD y0 b.y) && decide (a.y < b.y)
theorem lessD_iff {y0 : Int} {a b : Fd} : lessD y0 a b = true ↔ offD y0 a.y < offD y0 b.y ∨ offD y0 a.y = offD y0 b.y ∧ a.y < b.y := by
  unfold lessD
  simp only [Bool.or_eq_true, Bool.and_eq_true, decide_eq_true_eq]
theorem lessD_no {y0 : Int} {a b : Fd} : lessD y0 a b = false ↔ ¬ (offD y0 a.y < offD y0 b.y ∨ offD y0 a.y = offD y0 b.y ∧ a.y < b.y) := by
  rw [← lessD_iff, Bool.not_eq_true]
def nrS (y0 : Int) (b : Option Fd) (x : Fd) : Option Fd := match b with
  | none => some x
  | some b => if lessD y0 x b then some x else some b
def nrL (y0 : Int) (l : List Fd) : Option Fd := l.foldl (nrS y0) none
theorem nrL_snoc (y0 : Int) (l : List Fd) (x : Fd) : nrL y0 (l ++ [x]) = nrS y0 (nrL y0 l) x := by
  unfold nrL
  rw [List.foldl_append]
  rfl
theorem nrL_take (y0 : Int) {l : List Fd} {k : Nat} {x : Fd} (h : l[k]? = some x) : nrL y0 (l.take (k + 1)) = nrS y0 (nrL y0 (l.take k)) x := by
  rw [List.take_add_one, h]
  exact nrL_snoc y0 _ _
/-- It stands first of those that none is ahead of. -/
def FirstD (y0 : Int) (l : List Fd) (a : Fd) : Prop := ∃ l1 l2, l = l1 ++ a :: l2 ∧ (∀ b ∈ l1, lessD y0 a b = true) ∧ (∀ b ∈ l2, lessD y0 b a = false)
theorem fd_rev {P : List Fd → Prop} (h0 : P []) (h1 : ∀ l x, P l → P (l ++ [x])) (l : List Fd) : P l := by
  have key : ∀ m : List Fd, P m.reverse := by
    intro m
    induction m with
    | nil => exact h0
    | cons x m ih => rw [List.reverse_cons]; exact h1 _ _ ih
  have := key l.reverse
  rwa [List.reverse_reverse] at this
theorem nrL_first {y0 : Int} (l : List Fd) : (nrL y0 l = none ∧ l = []) ∨ ∃ a, nrL y0 l = some a ∧ FirstD y0 l a := by
  induction l using fd_rev with
  | h0 => exact .inl ⟨rfl, rfl⟩
  | h1 l x ih =>
    refine .inr ?_
    rw [nrL_snoc]
    rcases ih with ⟨h, rfl⟩ | ⟨b, h, l1, l2, rfl, h1, h2⟩
    · rw [h]
      exact ⟨x, rfl, [], [], rfl, fun b hb => absurd hb List.not_mem_nil, fun b hb => absurd hb List.not_mem_nil⟩
    · rw [h]
      by_cases hx : lessD y0 x b = true
      · refine ⟨x, by unfold nrS; dsimp only; rw [if_pos hx], l1 ++ b :: l2, [], rfl, fun c hc => ?_, fun c hc => absurd hc List.not_mem_nil⟩
        rw [lessD_iff] at hx ⊢
        rcases List.mem_append.1 hc with hc | hc
        · have := lessD_iff.1 (h1 c hc)
          omega
        · rcases List.mem_cons.1 hc with rfl | hc
          · exact hx
          · have := lessD_no.1 (h2 c hc)
            omega
      · refine ⟨b, by unfold nrS; dsimp only; rw [if_neg hx], l1, l2 ++ [x], by rw [List.append_assoc, List.cons_append], h1, fun c hc => ?_⟩
        rcases List.mem_append.1 hc with hc | hc
        · exact h2 c hc
        · rw [List.mem_singleton.1 hc]
          exact Bool.not_eq_true _ |>.mp hx
theorem firstD_nr {y0 : Int} {l : List Fd} {a : Fd} (h : FirstD y0 l a) : nrL y0 l = some a := by
  obtain ⟨l1, l2, rfl, h1, h2⟩ := h
  have e1 : nrL y0 (l1 ++ [a]) = some a := by
    rw [nrL_snoc]
    rcases nrL_first (y0 := y0) l1 with ⟨h, _⟩ | ⟨b, h, m1, m2, rfl, _, _⟩
    · rw [h]; rfl
    · rw [h]
      unfold nrS
      dsimp only
      rw [if_pos (h1 b (by simp))]
  have e2 : ∀ m : List Fd, (∀ b ∈ m, lessD y0 b a = false) → nrL y0 (l1 ++ [a] ++ m) = some a := by
    intro m
    induction m using fd_rev with
    | h0 => intro _; rw [List.append_nil]; exact e1
    | h1 m x ih =>
      intro hm
      rw [← List.append_assoc, nrL_snoc, ih (fun b hb => hm b (List.mem_append_left _ hb))]
      unfold nrS
      dsimp only
      rw [if_neg (by rw [hm x (by simp)]; decide)]
  have := e2 l2 h2
  rwa [List.append_assoc, List.singleton_append] at this
/-- The nearest floor of a column. -/
def locD (x z y0 wi : Int) (ts : List (List Rc)) : Option Fd := nrL y0 (fdTo x z y0 wi ts ts.length)
theorem filter_split {p : Fd → Bool} {l l1 l2 : List Fd} {a : Fd} (h : l.filter p = l1 ++ a :: l2) : ∃ m1 m2, l = m1 ++ a :: m2 ∧ m1.filter p = l1 ∧ m2.filter p = l2 ∧ p a = true := by
  obtain ⟨m1, m2, rfl, h1, h2⟩ := List.filter_eq_append_iff.1 h
  obtain ⟨n1, n2, rfl, h3, h4, h5⟩ := List.filter_eq_cons_iff.1 h2
  refine ⟨m1 ++ n1, n2, by rw [List.append_assoc], ?_, h5, h4⟩
  rw [List.filter_append, h1]
  have : n1.filter p = [] := List.filter_eq_nil_iff.2 h3
  rw [this, List.append_nil]
theorem loc_first {x z y0 wi : Int} {ts : List (List Rc)} {a : Fd} (h : locD x z y0 wi ts = some a) : ∃ m1 m2, fdAll x z ts = m1 ++ a :: m2 ∧ (∀ b ∈ m1, offD y0 b.y ≤ wi → lessD y0 a b = true) ∧ (∀ b ∈ m2, offD y0 b.y ≤ wi → lessD y0 b a = false) ∧ offD y0 a.y ≤ wi := by
  unfold locD at h
  rw [fdTo_filter] at h
  rcases nrL_first (y0 := y0) ((fdAll x z ts).filter (wiD y0 wi)) with ⟨h', _⟩ | ⟨b, hb, l1, l2, hl, h1, h2⟩
  · rw [h'] at h; cases h
  · rw [hb] at h
    cases h
    obtain ⟨m1, m2, e, e1, e2, e3⟩ := filter_split hl
    refine ⟨m1, m2, e, fun b hb hw => h1 b ?_, fun b hb hw => h2 b ?_, by unfold wiD at e3; simpa using e3⟩
    · rw [← e1, List.mem_filter]; exact ⟨hb, by unfold wiD; simpa using hw⟩
    · rw [← e2, List.mem_filter]; exact ⟨hb, by unfold wiD; simpa using hw⟩
theorem loc_of {x z y0 wi : Int} {ts : List (List Rc)} {a : Fd} {m1 m2 : List Fd} (e : fdAll x z ts = m1 ++ a :: m2) (ha : offD y0 a.y ≤ wi) (h1 : ∀ b ∈ m1, offD y0 b.y ≤ wi → lessD y0 a b = true) (h2 : ∀ b ∈ m2, offD y0 b.y ≤ wi → lessD y0 b a = false) : locD x z y0 wi ts = some a := by
  unfold locD
  rw [fdTo_filter, e]
  refine firstD_nr ⟨m1.filter (wiD y0 wi), m2.filter (wiD y0 wi), ?_, fun b hb => ?_, fun b hb => ?_⟩
  · rw [List.filter_append, List.filter_cons_of_pos (by unfold wiD; simpa using ha)]
  · rw [List.mem_filter] at hb
    exact h1 b hb.1 (by have := hb.2; unfold wiD at this; simpa using this)
  · rw [List.mem_filter] at hb
    exact h2 b hb.1 (by have := hb.2; unfold wiD at this; simpa using this)
theorem loc_more {x z y0 wi wj : Int} {ts : List (List Rc)} {a : Fd} (hw : wi ≤ wj) (h : locD x z y0 wi ts = some a) : locD x z y0 wj ts = some a := by
  obtain ⟨m1, m2, e, h1, h2, h3⟩ := loc_first h
  refine loc_of e (by omega) (fun b hb hbw => ?_) (fun b hb hbw => ?_)
  · by_cases hbi : offD y0 b.y ≤ wi
    · exact h1 b hb hbi
    · rw [lessD_iff]; omega
  · by_cases hbi : offD y0 b.y ≤ wi
    · exact h2 b hb hbi
    · rw [lessD_no]; omega
theorem loc_own {x z y0 wi : Int} {ts : List (List Rc)} {a : Fd} (h : locD x z y0 wi ts = some a) : locD x z a.y 0 ts = some a := by
  obtain ⟨m1, m2, e, h1, h2, h3⟩ := loc_first h
  refine loc_of e (by unfold offD; omega) (fun b hb hbw => ?_) (fun b hb hbw => ?_)
  · have hy : b.y = a.y := by unfold offD at hbw; omega
    have := lessD_iff.1 (h1 b hb (by rw [hy]; exact h3))
    rw [hy] at this
    omega
  · have hy : b.y = a.y := by unfold offD at hbw; omega
    rw [lessD_no, hy]
    omega
theorem loc_mem {x z y0 wi : Int} {ts : List (List Rc)} {a : Fd} (h : locD x z y0 wi ts = some a) : a ∈ fdAll x z ts := by
  obtain ⟨m1, m2, e, _⟩ := loc_first h
  rw [e]
  simp
theorem fdAll_mem {x z : Int} {ts : List (List Rc)} {a : Fd} (h : a ∈ fdAll x z ts) : ∃ f, a.i < ts.length ∧ a.k < (ts.getD a.i []).length ∧ rcAt ((ts.getD a.i []).getD a.k rcN0) x z = some f ∧ f.y = a.y := by
  unfold fdAll at h
  obtain ⟨i, hi, h⟩ := List.mem_flatMap.1 h
  obtain ⟨k, hk, h⟩ := List.mem_flatMap.1 h
  unfold fdAny at h
  cases e : rcAt ((ts.getD i []).getD k rcN0) x z with
  | none => rw [e] at h; cases h
  | some f =>
    rw [e] at h
    obtain rfl := List.mem_singleton.1 h
    exact ⟨f, List.mem_range.1 hi, List.mem_range.1 hk, e, rfl⟩
/-- A rectangle that may be has heights between bounds. -/
theorem rcAt_hgt {cf : Cfg} {r : Rc} {x z : Int} {f : Flr} (h : rcE cf r = 0) (hf : rcAt r x z = some f) : -2048 ≤ f.y ∧ f.y ≤ 2048 := by
  have hk := (rcE_zero.1 h).2
  have hin : rcIn r x z = true := by
    cases e : rcIn r x z with
    | true => rfl
    | false => unfold rcAt at hf; rw [e] at hf; cases hf
  unfold rcOk at hk
  simp only [Bool.and_eq_true] at hk
  obtain ⟨⟨hb, _⟩, hc⟩ := hk
  obtain ⟨u1, u2, u3, u4, u5, u6, u7, u8⟩ := rcIn_iff.1 hin
  have hn := (rcN_bd hb).2.2
  rw [List.all_eq_true] at hc
  have hW : (rcW r).toNat = (x - r.x0).toNat + (r.x1 - x).toNat + 1 := by unfold rcW; omega
  have hK : (z - r.z0).toNat * (rcW r).toNat + (x - r.x0).toNat < rcN r := by
    have a : (z - r.z0).toNat * (rcW r).toNat + (rcW r).toNat ≤ (r.z1 - r.z0 + 1).toNat * (rcW r).toNat := by
      rw [← Nat.succ_mul]
      exact Nat.mul_le_mul_right _ (by omega)
    have b : rcN r = (r.z1 - r.z0 + 1).toNat * (rcW r).toNat := by
      unfold rcN rcW
      rw [Int.mul_comm, Int.toNat_mul (by omega) (by omega)]
    omega
  have := hc _ (List.mem_range.2 hK)
  have hm : ((z - r.z0).toNat * (rcW r).toNat + (x - r.x0).toNat) % (rcW r).toNat = (x - r.x0).toNat := by
    rw [Nat.mul_comm, Nat.mul_add_mod, Nat.mod_eq_of_lt (by omega)]
  have hd : ((z - r.z0).toNat * (rcW r).toNat + (x - r.x0).toNat) / (rcW r).toNat = (z - r.z0).toNat := by
    rw [Nat.mul_comm, Nat.mul_add_div (by omega), Nat.div_eq_of_lt (by omega), Nat.add_zero]
  unfold rcCell at this
  rw [hm, hd] at this
  have ex : r.x0 + (((x - r.x0).toNat : Nat) : Int) = x := by omega
  have ez : r.z0 + (((z - r.z0).toNat : Nat) : Int) = z := by omega
  rw [ex, ez] at this
  unfold rcCol rcF hgtB at this
  rw [hf] at this
  simp only [Option.getD_some, Bool.and_eq_true, decide_eq_true_eq] at this
  omega
/-- Which tiles may be: seams.Check. -/
def tlN0 : Tl := ⟨0, 0, none, 0, 0, [], none, 0, 0, []⟩
def smT (cf : Cfg) (t : Tl) (i : Nat) : Bool := decide (t.x = (i : Int).tmod (tW cf.w)) && decide (t.z = (i : Int).tdiv (tW cf.w)) && decide (tlE cf t.x t.z (t.rs.map Prod.snd) t.ds = 0)
def smTo (cf : Cfg) (ts : List Tl) (k : Nat) : Bool := (List.range k).all fun i => smT cf (ts.getD i tlN0) i
def smE (cf : Cfg) (ts : List Tl) : Int := if cfgOk cf then if (ts.length : Int) = tW cf.w * tW cf.d ∧ smTo cf ts ts.length = true then 0 else 2 else 20
theorem smE_bad {cf : Cfg} {ts : List Tl} {i : Nat} (h : cfgOk cf = true) (hi : i < ts.length) (hb : smT cf (ts.getD i tlN0) i = false) : smE cf ts = 2 := by
  have e := all_false (f := fun i => smT cf (ts.getD i tlN0) i) hi hb
  unfold smE smTo
  rw [if_pos h, e, if_neg (by simp)]
theorem smE_n {cf : Cfg} {ts : List Tl} (h : cfgOk cf = true) (hn : ¬ (ts.length : Int) = tW cf.w * tW cf.d) : smE cf ts = 2 := by
  unfold smE
  rw [if_pos h, if_neg (fun e => hn e.1)]
theorem smE_ok {cf : Cfg} {ts : List Tl} (h : cfgOk cf = true) (hn : (ts.length : Int) = tW cf.w * tW cf.d) (ht : smTo cf ts ts.length = true) : smE cf ts = 0 := by
  unfold smE
  rw [if_pos h, if_pos ⟨hn, ht⟩]
theorem smE_zero {cf : Cfg} {ts : List Tl} (h : smE cf ts = 0) : cfgOk cf = true ∧ (ts.length : Int) = tW cf.w * tW cf.d ∧ smTo cf ts ts.length = true := by
  unfold smE at h
  split at h
  · rename_i h1
    split at h
    · rename_i h2
      exact ⟨h1, h2⟩
    · cases h
  · cases h
/-- The rectangles of tiles. -/
def tlRs (ts : List Tl) : List (List Rc) := ts.map fun t => t.rs.map Prod.snd
theorem smE_rc {cf : Cfg} {ts : List Tl} (h : smE cf ts = 0) {t : Tl} (ht : t ∈ ts) {p : RHd × Rc} (hp : p ∈ t.rs) : rcE cf p.2 = 0 := by
  obtain ⟨hc, _, hs⟩ := smE_zero h
  unfold smTo at hs
  rw [List.all_eq_true] at hs
  obtain ⟨i, hi, e⟩ := List.mem_iff_getElem.1 ht
  have h1 := hs i (List.mem_range.2 hi)
  have e1 : ts.getD i tlN0 = t := by rw [List.getD_eq_getElem?_getD, List.getElem?_eq_getElem hi, Option.getD_some, e]
  rw [e1] at h1
  unfold smT at h1
  simp only [Bool.and_eq_true, decide_eq_true_eq] at h1
  have h2 := h1.2
  unfold tlE at h2
  rw [if_pos hc] at h2
  have h3 : tlOk cf t.x t.z (t.rs.map Prod.snd) t.ds = true := by
    cases e2 : tlOk cf t.x t.z (t.rs.map Prod.snd) t.ds with
    | true => rfl
    | false => rw [e2] at h2; cases h2
  unfold tlOk at h3
  simp only [Bool.and_eq_true] at h3
  have h4 := h3.1.2
  unfold stepsP at h4
  rw [List.all_eq_true] at h4
  obtain ⟨k, hk, e3⟩ := List.mem_iff_getElem.1 hp
  have h5 := h4 k (List.mem_range.2 (by rw [List.length_map]; exact hk))
  have e4 : (t.rs.map Prod.snd).getD k rcN0 = p.2 := by rw [List.getD_eq_getElem?_getD, List.getElem?_map, List.getElem?_eq_getElem hk, e3]; rfl
  unfold stepP oneT at h5
  rw [e4] at h5
  simp only [Bool.and_eq_true, decide_eq_true_eq] at h5
  exact h5.1.1
end Go.Proofs.YtmgkkmcihplojaaGreat
