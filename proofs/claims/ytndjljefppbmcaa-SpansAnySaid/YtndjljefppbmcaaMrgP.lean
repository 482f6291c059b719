/- Plain law: pieces merged. -/
import Derived.Test.YtndjljefppbmcaaRow
namespace Go.Proofs.Ytndjljefppbmcaa

/-- Two pieces that meet, as one. -/
def joinS (a b : Spn) : Spn := ⟨min a.lo b.lo, max a.hi b.hi, (a.walk && decide (a.hi = max a.hi b.hi)) || (b.walk && decide (b.hi = max a.hi b.hi))⟩
def meetS (a b : Spn) : Bool := decide (a.lo ≤ b.hi) && decide (b.lo ≤ a.hi)
/-- The reference's put. -/
def putS : List Spn → Spn → List Spn
  | [], s => [s]
  | x :: r, s => if meetS x s then putS r (joinS x s) else if s.hi < x.lo then s :: x :: r else x :: putS r s
/-- The program's step: at the end alone. -/
def mstep (out : List Spn) (s : Spn) : List Spn := match out.getLast? with
  | none => [s]
  | some t => if s.lo ≤ t.hi then out.dropLast ++ [joinS t s] else out ++ [s]
/-- Pieces merged. -/
def mrgL (l : List Spn) : List Spn := l.foldl putS []

/-- O is what the pieces of L come to. -/
structure Mrg (L O : List Spn) : Prop where
  sep : O.Pairwise (fun a b => a.hi < b.lo)
  le : ∀ o ∈ O, o.lo ≤ o.hi
  cov : ∀ p ∈ L, ∃ o ∈ O, o.lo ≤ p.lo ∧ p.hi ≤ o.hi
  low : ∀ o ∈ O, ∃ p ∈ L, p.lo = o.lo
  high : ∀ o ∈ O, ∃ p ∈ L, p.hi = o.hi
  link : ∀ o ∈ O, ∀ y : Int, o.lo ≤ y → y < o.hi → ∃ p ∈ L, p.lo ≤ y ∧ y < p.hi
  walk : ∀ o ∈ O, (o.walk = true ↔ ∃ p ∈ L, p.hi = o.hi ∧ p.walk = true)

/-- Pieces that may be. -/
def Ups (L : List Spn) : Prop := ∀ p ∈ L, p.lo ≤ p.hi

theorem sep_one {O : List Spn} (h : O.Pairwise (fun a b => a.hi < b.lo)) {a b : Spn} (ha : a ∈ O) (hb : b ∈ O) (h1 : a.lo ≤ b.hi) (h2 : b.lo ≤ a.hi) (hla : a.lo ≤ a.hi) (_hlb : b.lo ≤ b.hi) : a = b := by
  induction h with
  | nil => cases ha
  | @cons x l hx _ ih =>
    rcases List.mem_cons.1 ha with rfl | ha
    · rcases List.mem_cons.1 hb with rfl | hb
      · rfl
      · have := hx b hb; omega
    · rcases List.mem_cons.1 hb with e | hb
      · have := hx a ha; rw [e] at h1; omega
      · exact ih ha hb

theorem sep_ext {O : List Spn} (h : O.Pairwise (fun a b => a.hi < b.lo)) : ∀ {O' : List Spn}, O'.Pairwise (fun a b => a.hi < b.lo) → Ups O → Ups O' → (∀ x, x ∈ O ↔ x ∈ O') → O = O' := by
  induction h with
  | nil =>
    intro O' _ _ _ hm
    cases O' with
    | nil => rfl
    | cons y l => exact absurd ((hm y).2 (List.mem_cons_self ..)) (by simp)
  | @cons x l hx hl ih =>
    intro O' h' hu hu' hm
    cases h' with
    | nil => exact absurd ((hm x).1 (List.mem_cons_self ..)) (by simp)
    | @cons y l' hy hl' =>
      have hxu := hu x (List.mem_cons_self ..)
      have hyu := hu' y (List.mem_cons_self ..)
      have hxy : x = y := by
        rcases List.mem_cons.1 ((hm x).1 (List.mem_cons_self ..)) with e | e
        · exact e
        · rcases List.mem_cons.1 ((hm y).2 (List.mem_cons_self ..)) with e' | e'
          · exact e'.symm
          · have := hx y e'; have := hy x e; omega
      subst hxy
      have : l = l' := by
        refine ih hl' (fun p hp => hu p (List.mem_cons_of_mem _ hp)) (fun p hp => hu' p (List.mem_cons_of_mem _ hp)) (fun z => ⟨fun hz => ?_, fun hz => ?_⟩)
        · rcases List.mem_cons.1 ((hm z).1 (List.mem_cons_of_mem _ hz)) with e | e
          · have := hx z hz; rw [e] at this; omega
          · exact e
        · rcases List.mem_cons.1 ((hm z).2 (List.mem_cons_of_mem _ hz)) with e | e
          · have := hy z hz; rw [e] at this; omega
          · exact e
      rw [this]

theorem Mrg.sub {L O O' : List Spn} (hu : Ups L) (h : Mrg L O) (h' : Mrg L O') {o : Spn} (ho : o ∈ O) : ∃ o' ∈ O', o'.lo ≤ o.lo ∧ o.hi ≤ o'.hi := by
  obtain ⟨p, hp, hpl⟩ := h.low o ho
  obtain ⟨o', ho', h1, h2⟩ := h'.cov p hp
  refine ⟨o', ho', by omega, ?_⟩
  by_cases hc : o.hi ≤ o'.hi
  · exact hc
  · have hle := h.le o ho
    have hpu := hu p hp
    obtain ⟨q, hq, hq1, hq2⟩ := h.link o ho o'.hi (by omega) (by omega)
    obtain ⟨o2, ho2, h3, h4⟩ := h'.cov q hq
    have := sep_one h'.sep ho' ho2 (by have := h'.le o' ho'; omega) (by omega) (h'.le o' ho') (h'.le o2 ho2)
    subst this
    omega

/-- Nothing else is what they come to. -/
theorem Mrg.uniq {L L' O O' : List Spn} (hu : Ups L) (h : Mrg L O) (h' : Mrg L' O') (hm : ∀ p, p ∈ L ↔ p ∈ L') : O = O' := by
  have hu' : Ups L' := fun p hp => hu p ((hm p).2 hp)
  have hx : Mrg L O' := ⟨h'.sep, h'.le, fun p hp => h'.cov p ((hm p).1 hp), fun o ho => (h'.low o ho).imp fun p hp => ⟨(hm p).2 hp.1, hp.2⟩, fun o ho => (h'.high o ho).imp fun p hp => ⟨(hm p).2 hp.1, hp.2⟩, fun o ho y h1 h2 => (h'.link o ho y h1 h2).imp fun p hp => ⟨(hm p).2 hp.1, hp.2⟩, fun o ho => (h'.walk o ho).trans ⟨fun ⟨p, hp, hq⟩ => ⟨p, (hm p).2 hp, hq⟩, fun ⟨p, hp, hq⟩ => ⟨p, (hm p).1 hp, hq⟩⟩⟩
  have key : ∀ {A B : List Spn}, Mrg L A → Mrg L B → ∀ o ∈ A, o ∈ B := by
    intro A B hA hB o ho
    obtain ⟨o', ho', h1, h2⟩ := hA.sub hu hB ho
    obtain ⟨o2, ho2, h3, h4⟩ := hB.sub hu hA ho'
    have e := sep_one hA.sep ho ho2 (by have := hA.le o ho; omega) (by have := hA.le o ho; omega) (hA.le o ho) (hA.le o2 ho2)
    subst e
    have el : o.lo = o'.lo := by omega
    have eh : o.hi = o'.hi := by omega
    have ew : o.walk = o'.walk := by
      have a1 := hA.walk o ho
      have a2 := hB.walk o' ho'
      rw [eh] at a1
      rw [Bool.eq_iff_iff]
      exact a1.trans a2.symm
    have : o = o' := by
      cases o; cases o'
      simp only at el eh ew
      rw [el, eh, ew]
    rw [this]; exact ho'
  exact sep_ext h.sep hx.sep h.le hx.le (fun x => ⟨key h hx x, key hx h x⟩)

/-- In parts. -/
theorem Mrg.comp {L1 L2 O1 O2 : List Spn} (h1 : Mrg L1 O1) (h2 : Mrg (O1 ++ L2) O2) (hu : Ups L1) : Mrg (L1 ++ L2) O2 := by
  refine ⟨h2.sep, h2.le, fun p hp => ?_, fun o ho => ?_, fun o ho => ?_, fun o ho y ha hb => ?_, fun o ho => ⟨fun hw => ?_, ?_⟩⟩
  · rcases List.mem_append.1 hp with hp | hp
    · obtain ⟨o, ho, ha, hb⟩ := h1.cov p hp
      obtain ⟨o', ho', hc, hd⟩ := h2.cov o (List.mem_append_left _ ho)
      exact ⟨o', ho', by omega, by omega⟩
    · exact h2.cov p (List.mem_append_right _ hp)
  · obtain ⟨p, hp, e⟩ := h2.low o ho
    rcases List.mem_append.1 hp with hp | hp
    · obtain ⟨q, hq, e2⟩ := h1.low p hp
      exact ⟨q, List.mem_append_left _ hq, by omega⟩
    · exact ⟨p, List.mem_append_right _ hp, e⟩
  · obtain ⟨p, hp, e⟩ := h2.high o ho
    rcases List.mem_append.1 hp with hp | hp
    · obtain ⟨q, hq, e2⟩ := h1.high p hp
      exact ⟨q, List.mem_append_left _ hq, by omega⟩
    · exact ⟨p, List.mem_append_right _ hp, e⟩
  · obtain ⟨p, hp, e1, e2⟩ := h2.link o ho y ha hb
    rcases List.mem_append.1 hp with hp | hp
    · obtain ⟨q, hq, e⟩ := h1.link p hp y e1 e2
      exact ⟨q, List.mem_append_left _ hq, e⟩
    · exact ⟨p, List.mem_append_right _ hp, e1, e2⟩
  · obtain ⟨p, hp, e1, e2⟩ := (h2.walk o ho).1 hw
    rcases List.mem_append.1 hp with hp | hp
    · obtain ⟨q, hq, e3, e4⟩ := (h1.walk p hp).1 e2
      exact ⟨q, List.mem_append_left _ hq, by omega, e4⟩
    · exact ⟨p, List.mem_append_right _ hp, e1, e2⟩
  · rintro ⟨p, hp, e1, e2⟩
    rcases List.mem_append.1 hp with hp | hp
    · obtain ⟨o', ho', e3, e4⟩ := h1.cov p hp
      obtain ⟨o2, ho2, e5, e6⟩ := h2.cov o' (List.mem_append_left _ ho')
      have hpu := hu p hp
      have hle := h2.le o ho
      have e := sep_one h2.sep ho ho2 (by omega) (by omega) hle (h2.le o2 ho2)
      subst e
      exact (h2.walk o ho).2 ⟨o', List.mem_append_left _ ho', by omega, (h1.walk o' ho').2 ⟨p, hp, by omega, e2⟩⟩
    · exact (h2.walk o ho).2 ⟨p, List.mem_append_right _ hp, e1, e2⟩

theorem Mrg.congr {L L' O : List Spn} (h : Mrg L O) (hm : ∀ p, p ∈ L ↔ p ∈ L') : Mrg L' O :=
  ⟨h.sep, h.le, fun p hp => h.cov p ((hm p).2 hp), fun o ho => (h.low o ho).imp fun p hp => ⟨(hm p).1 hp.1, hp.2⟩, fun o ho => (h.high o ho).imp fun p hp => ⟨(hm p).1 hp.1, hp.2⟩, fun o ho y h1 h2 => (h.link o ho y h1 h2).imp fun p hp => ⟨(hm p).1 hp.1, hp.2⟩, fun o ho => (h.walk o ho).trans ⟨fun ⟨p, hp, hq⟩ => ⟨p, (hm p).1 hp, hq⟩, fun ⟨p, hp, hq⟩ => ⟨p, (hm p).2 hp, hq⟩⟩⟩

theorem Mrg.nil : Mrg [] [] := ⟨List.Pairwise.nil, by simp, by simp, by simp, by simp, by simp, by simp⟩
theorem Mrg.one (s : Spn) (h : s.lo ≤ s.hi) : Mrg [s] [s] :=
  ⟨List.pairwise_singleton _ _, by simpa using h, by simp, by simp, by simp, fun o ho y h1 h2 => by simp at ho; subst ho; exact ⟨o, by simp, h1, h2⟩, fun o ho => by simp at ho; subst ho; simp⟩

theorem Mrg.pair {x s : Spn} (hm : meetS x s = true) (hx : x.lo ≤ x.hi) (hs : s.lo ≤ s.hi) : Mrg [x, s] [joinS x s] := by
  simp only [meetS, Bool.and_eq_true, decide_eq_true_eq] at hm
  have e1 : (joinS x s).lo = min x.lo s.lo := rfl
  have e2 : (joinS x s).hi = max x.hi s.hi := rfl
  refine ⟨List.pairwise_singleton _ _, fun o ho => ?_, fun p hp => ⟨_, List.mem_singleton.2 rfl, ?_⟩, fun o ho => ?_, fun o ho => ?_, fun o ho y h1 h2 => ?_, fun o ho => ?_⟩
  · simp at ho; subst ho; omega
  · simp at hp
    rcases hp with rfl | rfl <;> omega
  · simp at ho; subst ho
    by_cases h : x.lo ≤ s.lo
    · exact ⟨x, by simp, by omega⟩
    · exact ⟨s, by simp, by omega⟩
  · simp at ho; subst ho
    by_cases h : x.hi ≤ s.hi
    · exact ⟨s, by simp, by omega⟩
    · exact ⟨x, by simp, by omega⟩
  · simp at ho; subst ho
    by_cases h : x.lo ≤ y ∧ y < x.hi
    · exact ⟨x, by simp, h⟩
    · exact ⟨s, by simp, by omega, by omega⟩
  · simp at ho; subst ho
    rw [e2]
    simp only [joinS, List.mem_cons, List.not_mem_nil, or_false, Bool.or_eq_true, Bool.and_eq_true, decide_eq_true_eq]
    constructor
    · rintro (⟨a, b⟩ | ⟨a, b⟩)
      · exact ⟨x, .inl rfl, b, a⟩
      · exact ⟨s, .inr rfl, b, a⟩
    · rintro ⟨p, rfl | rfl, a, b⟩
      · exact .inl ⟨b, a⟩
      · exact .inr ⟨b, a⟩

theorem Mrg.app {L1 L2 O1 O2 : List Spn} (h1 : Mrg L1 O1) (h2 : Mrg L2 O2) (_hu1 : Ups L1) (hu2 : Ups L2) (hs : ∀ a ∈ O1, ∀ b ∈ O2, a.hi < b.lo) : Mrg (L1 ++ L2) (O1 ++ O2) := by
  refine ⟨List.pairwise_append.2 ⟨h1.sep, h2.sep, hs⟩, fun o ho => ?_, fun p hp => ?_, fun o ho => ?_, fun o ho => ?_, fun o ho y ha hb => ?_, fun o ho => ⟨fun hw => ?_, ?_⟩⟩
  · rcases List.mem_append.1 ho with ho | ho
    · exact h1.le o ho
    · exact h2.le o ho
  · rcases List.mem_append.1 hp with hp | hp
    · obtain ⟨o, ho, h⟩ := h1.cov p hp; exact ⟨o, List.mem_append_left _ ho, h⟩
    · obtain ⟨o, ho, h⟩ := h2.cov p hp; exact ⟨o, List.mem_append_right _ ho, h⟩
  · rcases List.mem_append.1 ho with ho | ho
    · obtain ⟨p, hp, h⟩ := h1.low o ho; exact ⟨p, List.mem_append_left _ hp, h⟩
    · obtain ⟨p, hp, h⟩ := h2.low o ho; exact ⟨p, List.mem_append_right _ hp, h⟩
  · rcases List.mem_append.1 ho with ho | ho
    · obtain ⟨p, hp, h⟩ := h1.high o ho; exact ⟨p, List.mem_append_left _ hp, h⟩
    · obtain ⟨p, hp, h⟩ := h2.high o ho; exact ⟨p, List.mem_append_right _ hp, h⟩
  · rcases List.mem_append.1 ho with ho | ho
    · obtain ⟨p, hp, h⟩ := h1.link o ho y ha hb; exact ⟨p, List.mem_append_left _ hp, h⟩
    · obtain ⟨p, hp, h⟩ := h2.link o ho y ha hb; exact ⟨p, List.mem_append_right _ hp, h⟩
  · rcases List.mem_append.1 ho with ho | ho
    · obtain ⟨p, hp, h⟩ := (h1.walk o ho).1 hw; exact ⟨p, List.mem_append_left _ hp, h⟩
    · obtain ⟨p, hp, h⟩ := (h2.walk o ho).1 hw; exact ⟨p, List.mem_append_right _ hp, h⟩
  · rintro ⟨p, hp, e1, e2⟩
    rcases List.mem_append.1 ho with ho | ho <;> rcases List.mem_append.1 hp with hp | hp
    · exact (h1.walk o ho).2 ⟨p, hp, e1, e2⟩
    · obtain ⟨b, hb, e3, e4⟩ := h2.cov p hp
      have := hs o ho b hb
      have := hu2 p hp
      omega
    · obtain ⟨b, hb, e3, e4⟩ := h1.cov p hp
      have := hs b hb o ho
      have := h2.le o ho
      omega
    · exact (h2.walk o ho).2 ⟨p, hp, e1, e2⟩

theorem Mrg.self {O : List Spn} (h : O.Pairwise (fun a b => a.hi < b.lo)) (hu : Ups O) : Mrg O O := by
  induction h with
  | nil => exact Mrg.nil
  | @cons x l hx _ ih =>
    refine Mrg.app (L1 := [x]) (O1 := [x]) (Mrg.one x (hu x (by simp))) (ih fun p hp => hu p (by simp [hp])) (fun p hp => hu p (by simp at hp; simp [hp])) (fun p hp => hu p (by simp [hp])) (fun a ha b hb => ?_)
    simp at ha
    subst ha
    exact hx b hb

theorem joinS_le {x s : Spn} (hx : x.lo ≤ x.hi) (hs : s.lo ≤ s.hi) : (joinS x s).lo ≤ (joinS x s).hi := by
  show min x.lo s.lo ≤ max x.hi s.hi
  omega

/-- The reference's put. -/
theorem Mrg.put {R : List Spn} (h : R.Pairwise (fun a b => a.hi < b.lo)) : ∀ {s : Spn}, Ups R → s.lo ≤ s.hi → Mrg (R ++ [s]) (putS R s) := by
  induction h with
  | nil => intro s _ hs; exact Mrg.one s hs
  | @cons x r hx hr ih =>
    intro s hu hs
    have hxu := hu x (by simp)
    have hur : Ups r := fun p hp => hu p (by simp [hp])
    unfold putS
    by_cases hm : meetS x s = true
    · rw [if_pos hm]
      have h1 := ih (s := joinS x s) hur (joinS_le hxu hs)
      have h2 := Mrg.comp (L2 := r) (Mrg.pair hm hxu hs) (h1.congr (L' := [joinS x s] ++ r) (fun p => by simp [or_comm])) (fun p hp => by simp at hp; rcases hp with rfl | rfl <;> assumption)
      exact h2.congr (fun p => by simp; constructor <;> (rintro (h | h | h) <;> simp [h]))
    · rw [if_neg hm]
      simp only [meetS, Bool.and_eq_true, decide_eq_true_eq] at hm
      by_cases hc : s.hi < x.lo
      · rw [if_pos hc]
        refine (Mrg.self (O := s :: x :: r) ?_ ?_).congr (fun p => ?_)
        · refine List.Pairwise.cons (fun b hb => ?_) (List.Pairwise.cons hx hr)
          rcases List.mem_cons.1 hb with rfl | hb
          · exact hc
          · have := hx b hb; omega
        · intro p hp
          simp at hp
          rcases hp with rfl | rfl | hp
          · exact hs
          · exact hxu
          · exact hur p hp
        · simp; constructor <;> (rintro (h | h | h) <;> simp [h])
      · rw [if_neg hc]
        have h1 := ih hur hs
        refine Mrg.app (L1 := [x]) (O1 := [x]) (Mrg.one x hxu) h1 (fun p hp => by simp at hp; subst hp; exact hxu) (fun p hp => ?_) (fun a ha b hb => ?_)
        · simp at hp
          rcases hp with hp | rfl
          · exact hur p hp
          · exact hs
        · simp at ha
          subst ha
          obtain ⟨p, hp, e⟩ := h1.low b hb
          simp at hp
          rcases hp with hp | rfl
          · have := hx p hp; omega
          · omega

theorem Mrg.putAt {L O : List Spn} (h : Mrg L O) (hu : Ups L) {s : Spn} (hs : s.lo ≤ s.hi) : Mrg (L ++ [s]) (putS O s) := Mrg.comp h (Mrg.put h.sep h.le hs) hu

theorem mrgL_aux (l : List Spn) : ∀ {L O : List Spn}, Mrg L O → Ups L → Ups l → Mrg (L ++ l) (l.foldl putS O) := by
  induction l with
  | nil => intro L O h _ _; simpa using h
  | cons s l ih =>
    intro L O h hu hl
    have hs := hl s (by simp)
    have := ih (h.putAt hu hs) (fun p hp => by simp at hp; rcases hp with hp | rfl; exact hu p hp; exact hs) (fun p hp => hl p (by simp [hp]))
    simpa using this
theorem mrgL_mrg {l : List Spn} (hl : Ups l) : Mrg l (mrgL l) := by simpa [mrgL] using mrgL_aux l Mrg.nil (by simp [Ups]) hl

/-- The program's step. -/
theorem Mrg.step {L O : List Spn} (h : Mrg L O) (hu : Ups L) {s : Spn} (hs : s.lo ≤ s.hi) (hle : ∀ p ∈ L, p.lo ≤ s.lo) : Mrg (L ++ [s]) (mstep O s) := by
  refine Mrg.comp h ?_ hu
  have hOle : ∀ o ∈ O, o.lo ≤ s.lo := fun o ho => by obtain ⟨p, hp, e⟩ := h.low o ho; have := hle p hp; omega
  unfold mstep
  rcases List.eq_nil_or_concat O with rfl | ⟨init, t, rfl⟩
  · exact Mrg.one s hs
  · rw [List.concat_eq_append] at h hOle ⊢
    have hsep := List.pairwise_append.1 h.sep
    have htu := h.le t (by simp)
    have hiu : Ups init := fun p hp => h.le p (by simp [hp])
    simp only [List.getLast?_append, List.getLast?_singleton, Option.some_or, List.dropLast_concat]
    by_cases hc : s.lo ≤ t.hi
    · rw [if_pos hc, List.append_assoc]
      have hto := hOle t (by simp)
      refine Mrg.app (Mrg.self hsep.1 hiu) (Mrg.pair (by simp [meetS]; omega) htu hs) hiu (fun p hp => by simp at hp; rcases hp with rfl | rfl <;> assumption) (fun a ha b hb => ?_)
      simp at hb
      subst hb
      have := hsep.2.2 a ha t (by simp)
      show a.hi < min t.lo s.lo
      omega
    · rw [if_neg hc]
      refine Mrg.app (Mrg.self h.sep h.le) (Mrg.one s hs) h.le (fun p hp => by simp at hp; subst hp; exact hs) (fun a ha b hb => ?_)
      simp at hb
      subst hb
      simp at ha
      rcases ha with ha | rfl
      · have := hsep.2.2 a ha t (by simp); have := hOle t (by simp); omega
      · omega

theorem msteps_aux (l : List Spn) : ∀ {L O : List Spn}, Mrg L O → Ups L → Ups l → (L ++ l).Pairwise (fun a b => a.lo ≤ b.lo) → Mrg (L ++ l) (l.foldl mstep O) := by
  induction l with
  | nil => intro L O h _ _ _; simpa using h
  | cons s l ih =>
    intro L O h hu hl hp
    have hs := hl s (by simp)
    have hle : ∀ p ∈ L, p.lo ≤ s.lo := fun p hpL => (List.pairwise_append.1 hp).2.2 p hpL s (by simp)
    have := ih (h.step hu hs hle) (fun p hp => by simp at hp; rcases hp with hp | rfl; exact hu p hp; exact hs) (fun p hp => hl p (by simp [hp])) (by simpa using hp)
    simpa using this

/-- Sorted pieces, merged at the end alone, are the pieces merged. -/
theorem msteps_eq {l d : List Spn} (hl : Ups l) (hp : d.Perm l) (hs : d.Pairwise (fun a b => a.lo ≤ b.lo)) : d.foldl mstep [] = mrgL l := by
  have hd : Ups d := fun p h => hl p (hp.mem_iff.1 h)
  have h1 : Mrg d (d.foldl mstep []) := by simpa using msteps_aux d Mrg.nil (by simp [Ups]) hd (by simpa using hs)
  exact h1.uniq hd (mrgL_mrg hl) (fun p => hp.mem_iff)

def mayAll (l : List Spn) : Bool := l.all mayS
def mrgE (l : List Spn) : Int := if mayAll l then 0 else 2
def mrgR (l : List Spn) : List Spn := if mayAll l then mrgL l else []
theorem mayAll_ups {l : List Spn} (h : mayAll l = true) : Ups l := fun p hp => by
  have := List.all_eq_true.1 h p hp
  simp [mayS] at this
  omega

/-! ### The reference's put, as it goes -/
abbrev PSt := List Spn × Spn × Bool
def pstep (st : PSt) (x : Spn) : PSt := if meetS x st.2.1 then (st.1, joinS x st.2.1, st.2.2) else if !st.2.2 && decide (st.2.1.hi < x.lo) then (st.1 ++ [st.2.1] ++ [x], st.2.1, true) else (st.1 ++ [x], st.2.1, st.2.2)
def putG (l : List Spn) (s : Spn) : List Spn := let st := l.foldl pstep ([], s, false); if st.2.2 then st.1 else st.1 ++ [st.2.1]
theorem psteps_done (l : List Spn) (s : Spn) (hs : ∀ x ∈ l, s.hi < x.lo) : ∀ out, l.foldl pstep (out, s, true) = (out ++ l, s, true) := by
  induction l with
  | nil => intro out; simp
  | cons x l ih =>
    intro out
    have hx := hs x (by simp)
    have hm : meetS x s = false := by simp [meetS]; omega
    rw [List.foldl_cons]
    show List.foldl pstep (pstep (out, s, true) x) l = _
    have : pstep (out, s, true) x = (out ++ [x], s, true) := by simp [pstep, hm]
    rw [this, ih (fun y hy => hs y (by simp [hy]))]
    simp
theorem psteps_aux {l : List Spn} (h : l.Pairwise (fun a b => a.hi < b.lo)) : ∀ (s : Spn) (out : List Spn), Ups l → s.lo ≤ s.hi → (if (l.foldl pstep (out, s, false)).2.2 then (l.foldl pstep (out, s, false)).1 else (l.foldl pstep (out, s, false)).1 ++ [(l.foldl pstep (out, s, false)).2.1]) = out ++ putS l s := by
  induction h with
  | nil => intro s out _ _; simp [putS]
  | @cons x l hx hl ih =>
    intro s out hu hs
    have hxu := hu x (by simp)
    have hul : Ups l := fun p hp => hu p (by simp [hp])
    rw [List.foldl_cons]
    unfold putS
    by_cases hm : meetS x s = true
    · have : pstep (out, s, false) x = (out, joinS x s, false) := by simp [pstep, hm]
      rw [this, if_pos hm]
      exact ih _ _ hul (joinS_le hxu hs)
    · rw [if_neg hm]
      by_cases hc : s.hi < x.lo
      · have : pstep (out, s, false) x = (out ++ [s] ++ [x], s, true) := by simp [pstep, hm, hc]
        rw [this, if_pos hc, psteps_done l s (fun y hy => by have := hx y hy; omega)]
        simp
      · have : pstep (out, s, false) x = (out ++ [x], s, false) := by simp [pstep, hm, hc]
        rw [this, if_neg hc, ih _ _ hul hs]
        simp
theorem putG_eq {l : List Spn} (h : l.Pairwise (fun a b => a.hi < b.lo)) (hu : Ups l) {s : Spn} (hs : s.lo ≤ s.hi) : putG l s = putS l s := by
  have := psteps_aux h s [] hu hs
  simpa [putG] using this
theorem psteps_len (l : List Spn) : ∀ st : PSt, (l.foldl pstep st).1.length + st.2.2.toNat ≤ st.1.length + l.length + (l.foldl pstep st).2.2.toNat := by
  induction l with
  | nil => intro st; simp
  | cons x l ih =>
    intro st
    have := ih (pstep st x)
    rw [List.foldl_cons]
    obtain ⟨o, s, d⟩ := st
    have h2 : (pstep (o, s, d) x).1.length + d.toNat ≤ o.length + 1 + (pstep (o, s, d) x).2.2.toNat := by
      unfold pstep
      cases d <;> by_cases hm : meetS x s = true <;> by_cases hc : s.hi < x.lo <;> simp [hm, hc] <;> omega
    simp only [List.length_cons] at this ⊢
    omega
theorem psteps_len0 (l : List Spn) (s : Spn) : (l.foldl pstep ([], s, false)).1.length ≤ l.length + 1 := by
  have := psteps_len l ([], s, false)
  have := Bool.toNat_le (l.foldl pstep ([], s, false)).2.2
  simp only [List.length_nil, Bool.toNat_false] at *
  omega
theorem take_step {α β : Type} (f : β → α → β) (l : List α) (b : β) {k : Nat} {x : α} (hx : l[k]? = some x) : (l.take (k + 1)).foldl f b = f ((l.take k).foldl f b) x := by
  rw [List.take_add_one, hx, List.foldl_append]; rfl
theorem putG_len (l : List Spn) (s : Spn) : (putG l s).length ≤ l.length + 2 := by
  have := psteps_len0 l s
  unfold putG
  simp only
  split
  · omega
  · rw [List.length_append]; simp; omega

end Go.Proofs.Ytndjljefppbmcaa
