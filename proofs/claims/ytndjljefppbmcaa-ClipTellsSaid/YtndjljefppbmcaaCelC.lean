/- Walk: the columns that a segment meets. -/
import Derived.Test.YtndjljefppbmcaaCelS
import Derived.Test.YtndjljefppbmcaaSlc
import Derived.Test.YtndjljefppbmcaaSrt
namespace Go.Proofs.Ytndjljefppbmcaa
open Go.RowKit Go.Sort

def ceC (c : Cel) : List Value := [.int .i64 c.x, .int .i64 c.z, .int .i64 c.p.n, .int .i64 c.p.d, .int .i64 c.q.n, .int .i64 c.q.d]
abbrev SlCe := SlR ceC 6
theorem ceC_len (x : Cel) : (ceC x).length = 6 := rfl
theorem ceC_one (x : Cel) : ∀ u ∈ ceC x, u.oneCell' = true := by intro u hu; simp [ceC] at hu; rcases hu with rfl | rfl | rfl | rfl | rfl | rfl <;> rfl
theorem info_cel : (Try.prog.info? 43).map (fun i => (i.zero, i.size, i.bytes)) = some (some (.agg #[.int .i64 0, .int .i64 0, .int .i64 0, .int .i64 0, .int .i64 0, .int .i64 0]), 6, 48) := by kernel_rfl

/-! ### The library's sort at columns -/
def keys (xs : List Cel) (h : ∀ c ∈ xs, RtSmall 1000 c.p) : List CelK := xs.pmap Subtype.mk h
theorem keys_map (xs : List Cel) (h : ∀ c ∈ xs, RtSmall 1000 c.p) : (keys xs h).map Subtype.val = xs := by
  unfold keys
  rw [List.map_pmap]
  simp
theorem keys_flat (ks : List CelK) : ks.flatMap (fun c => ceC c.1) = (ks.map Subtype.val).flatMap ceC := by
  rw [List.flatMap_map]

theorem sortcel_any (v : Value) (n : Nat) (xs : List Cel) (B : Nat) (w : World) (hk : ∀ c ∈ xs, RtSmall 1000 c.p) (hown : OwnR ceC 6 43 B w v n xs) (hn : n ≤ 100000) :
    Calls Try.prog 54 #[v, .func (.func 55) #[] #[]] w fun e w' => e = .returned (.tuple #[]) ∧ ∃ ys a c, v = .slice a n c ∧ ys.Perm xs ∧ ys.Pairwise (fun p q => ¬ cltC q p) ∧ SlCe w' a n c ys ∧ Below B w w' := by
  have hl := hown.1
  by_cases h0 : n = 0
  · subst h0
    obtain rfl := List.eq_nil_of_length_eq_zero hl
    obtain ⟨a, c, rfl, hs⟩ := OwnR.reads ceC_len hown
    refine (AnyF.slices_SortFunc_none Try.lSortCel a c _ w).mono ?_
    rintro e w' ⟨rfl, rfl⟩
    exact ⟨rfl, [], a, c, rfl, List.Perm.refl _, List.Pairwise.nil, hs, Below.refl _ _⟩
  rcases hown.2.2 with ⟨_, hx⟩ | ⟨g, cap, cur, rfl, hBg, hg, h1, h2, h3, h4⟩
  · exact absurd hx h0
  have hkm := keys_map xs hk
  obtain ⟨ks, hks⟩ : ∃ ks, ks = keys xs hk := ⟨_, rfl⟩
  rw [← hks] at hkm
  have hkl : ks.length = n := by rw [← hl, ← hkm, List.length_map]
  have hfl : ∀ x : CelK, (ceC x.1).length = 6 := fun _ => rfl
  have hownK : OwnR (fun c : CelK => ceC c.1) 6 43 B w (.slice (some ⟨g, 0, none⟩) n cap) n ks := ⟨hkl, by rw [keys_flat, hkm]; exact hown.2⟩
  have hH := holdsK_of_own hfl hownK
  have hgs : g < w.heap.size := (Array.getElem?_eq_some_iff.1 hg).1
  have eg : ∀ args w, (callFunc 55 args).run Try.prog w = .ok (.enter 55 args) w := enters_of Try.func55 (by kernel_rfl) rfl
  have h := AnyQ.slices_SortFunc Try.lSortCel 6 Try.isAgg43 Try.sizeOf43 (fun c : CelK => ceC c.1) hfl (fun x => ceC_one x.1) cmpK swoK 55 #[] g 0 cap ks.toArray w eg (fun _ _ _ _ x y => cmpcel_any x.1 y.1 _ x.2 y.2) hH hgs (by simp; omega)
  have hsz : ks.toArray.size = n := by simpa using hkl
  rw [hsz] at h
  refine Calls.mono h ?_
  rintro e w' ⟨rfl, d', m, os, hp, hs, rfl⟩
  have hds : d'.size = ks.toArray.size := hp.1
  have hr := sortK_reads hfl (m := m) (cap := cap) (os := os) hH hgs hds (by omega) (by simpa [maxLen] using h2)
  rw [hds, hsz] at hr
  have hp' : PermIn 0 ks.toArray.size ks.toArray d' := by rw [hsz]; exact hp
  have hs' : SortedIn (ltOf cmpK) 0 ks.toArray.size d' := by rw [hsz]; exact hs
  have q1 : d'.toList.Perm ks := by simpa using permIn_perm hp'
  have q2 := sortedIn_pairwise hds hs'
  refine ⟨rfl, d'.toList.map Subtype.val, _, _, rfl, ?_, ?_, ?_, sortK_below hgs hBg⟩
  · rw [← hkm]; exact q1.map _
  · rw [List.pairwise_map]
    exact q2.imp fun {p q} hpq => (ltK_false q p).1 hpq
  · refine ⟨by rw [List.length_map]; exact hr.len, hr.le, hr.max, ?_⟩
    rcases hr.cell with h0 | ⟨b, off, ha, hb, hc⟩
    · exact .inl h0
    · refine .inr ⟨b, off, ha, hb, fun i x hx j u hu => ?_⟩
      rw [List.getElem?_map] at hx
      cases hd : d'.toList[i]? with
      | none => rw [hd] at hx; cases hx
      | some k =>
        rw [hd] at hx
        cases hx
        exact hc i k hd j u hu

/-- What the columns are: the ones met, in their order. -/
def CelAt (a b : Pt) (l : List Cel) : Prop := l.Perm (rawC a b) ∧ l.Pairwise (fun p q => ¬ cltC q p)
theorem meetC_small {a b : Pt} {x z : Int} (ha : pointOk a = true) (hb : pointOk b = true) (hx : -50 ≤ x ∧ x ≤ 50) (hz : -50 ≤ z ∧ z ≤ 50) : RtSmall 1000 (meetC a b x z).1.p ∧ RtSmall 1000 (meetC a b x z).1.q := by
  rw [pointOk_iff] at ha hb
  have sx := axisS_small a.x b.x (2 * x) (by omega) (by omega) (by omega)
  have sz := axisS_small a.z b.z (2 * z) (by omega) (by omega) (by omega)
  constructor
  · show RtSmall 1000 (if _ then _ else _)
    split
    · exact sz.1
    · exact sx.1
  · show RtSmall 1000 (if _ then _ else _)
    split
    · exact sz.2
    · exact sx.2
theorem rawC_mem {a b : Pt} {c : Cel} : c ∈ rawC a b ↔ ∃ i k : Nat, i < numS a.z b.z ∧ k < numS a.x b.x ∧ (meetC a b (lowS a.x b.x + k) (lowS a.z b.z + i)).2 = true ∧ c = (meetC a b (lowS a.x b.x + k) (lowS a.z b.z + i)).1 := by
  unfold rawC rowsC rowC
  simp only [List.mem_flatMap, List.mem_filterMap, List.mem_range]
  constructor
  · rintro ⟨i, hi, k, hk, h⟩
    split at h
    · cases h; exact ⟨i, k, hi, hk, by assumption, rfl⟩
    · cases h
  · rintro ⟨i, k, hi, hk, h, rfl⟩
    exact ⟨i, hi, k, hk, by rw [if_pos h]⟩
theorem rawC_small {a b : Pt} (ha : pointOk a = true) (hb : pointOk b = true) : ∀ c ∈ rawC a b, RtSmall 1000 c.p ∧ RtSmall 1000 c.q := by
  intro c hc
  obtain ⟨i, k, hi, hk, _, rfl⟩ := rawC_mem.1 hc
  have h1 := pointOk_iff.1 ha
  have h2 := pointOk_iff.1 hb
  have bx := lowS_bounds (a := a.x) (b := b.x) (by omega) (by omega)
  have bz := lowS_bounds (a := a.z) (b := b.z) (by omega) (by omega)
  exact meetC_small ha hb (by omega) (by omega)

end Go.Proofs.Ytndjljefppbmcaa
