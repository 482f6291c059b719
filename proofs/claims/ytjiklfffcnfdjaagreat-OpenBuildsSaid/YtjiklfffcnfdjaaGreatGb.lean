/- Plain law: pieces merged. -/
import Derived.Test.YtjiklfffcnfdjaaGreatGa
namespace Go.Proofs.YtjiklfffcnfdjaaGreat

/-- Two pieces that meet, as one. -/
def joinS (a b : Spn) : Spn := ⟨min a.lo b.lo, max a.hi b.hi, (a.walk && decide (a.hi = max a.hi b.hi)) || (b.walk && decide (b.hi = max a.hi b.hi))⟩
def meetS (a b : Spn) : Bool := decide (a.lo ≤ b.hi) && decide (b.lo ≤ a.hi)
/-- The reference's put. -/
def putS : List Spn → Spn → List Spn
  | [], s => [s]
  | x :: r, s => if meetS x s then putS r (joinS x s) else if s.hi < x.lo then s :: x :: r else x :: putS r s
/-- The program's step: at the end alone. -/
def mstep (out : List Spn) (s : Spn) : List Spn := match out.getLast? with
  | none => [s]
  | some t => if s.lo ≤ t.hi then out.dropLast ++ [joinS t s] else out ++ [s]
/-- Pieces merged. -/
def mrgL (l : List Spn) : List Spn := l.foldl putS []

/-- O is what the pieces of L come to. -/
structure Mrg (L O : List Spn) : Prop where
  sep : O.Pairwise (fun a b => a.hi < b.lo)
  le : ∀ o ∈ O, o.lo ≤ o.hi
  cov : ∀ p ∈ L, ∃ o ∈ O, o.lo ≤ p.lo ∧ p.hi ≤ o.hi
  low : ∀ o ∈ O, ∃ p ∈ L, p.lo = o.lo
  high : ∀ o ∈ O, ∃ p ∈ L, p.hi = o.hi
  link : ∀ o ∈ O, ∀ y : Int, o.lo ≤ y → y < o.hi → ∃ p ∈ L, p.lo ≤ y ∧ y < p.hi
  walk : ∀ o ∈ O, (o.walk = true ↔ ∃ p ∈ L, p.hi = o.hi ∧ p.walk = true)

/-- Pieces that may be. -/
def Ups (L : List Spn) : Prop := ∀ p ∈ L, p.lo ≤ p.hi

theorem sep_one {O : List Spn} (h : O.Pairwise (fun a b => a.hi < b.lo)) {a b : Spn} (ha : a ∈ O) (hb : b ∈ O) (h1 : a.lo ≤ b.hi) (h2 : b.lo ≤ a.hi) (hla : a.lo ≤ a.hi) (_hlb : b.lo ≤ b.hi) : a = b := by
  induction h with
  | nil => cases ha
  | @cons x l hx _ ih =>
    rcases List.mem_cons.1 ha with rfl | ha
    · rcases List.mem_cons.1 hb with rfl | hb
      · rfl
      · have := hx b hb; omega
    · rcases List.mem_cons.1 hb with e | hb
      · have := hx a ha; rw [e] at h1; omega
      · exact ih ha hb

theorem sep_ext {O : List Spn} (h : O.Pairwise (fun a b => a.hi < b.lo)) : ∀ {O' : List Spn}, O'.Pairwise (fun a b => a.hi < b.lo) → Ups O → Ups O' → (∀ x, x ∈ O ↔ x ∈ O') → O = O' := by
  induction h with
  | nil =>
    intro O' _ _ _ hm
    cases O' with
    | nil => rfl
    | cons y l => exact absurd ((hm y).2 (List.mem_cons_self ..)) (by simp)
  | @cons x l hx hl ih =>
    intro O' h' hu hu' hm
    cases h' with
    | nil => exact absurd ((hm x).1 (List.mem_cons_self ..)) (by simp)
    | @cons y l' hy hl' =>
      have hxu := hu x (List.mem_cons_self ..)
      have hyu := hu' y (List.mem_cons_self ..)
      have hxy : x = y := by
        rcases List.mem_cons.1 ((hm x).1 (List.mem_cons_self ..)) with e | e
        · exact e
        · rcases List.mem_cons.1 ((hm y).2 (List.mem_cons_self ..)) with e' | e'
          · exact e'.symm
          · have := hx y e'; have := hy x e; omega
      subst hxy
      have : l = l' := by
        refine ih hl' (fun p hp => hu p (List.mem_cons_of_mem _ hp)) (fun p hp => hu' p (List.mem_cons_of_mem _ hp)) (fun z => ⟨fun hz => ?_, fun hz => ?_⟩)
        · rcases List.mem_cons.1 ((hm z).1 (List.mem_cons_of_mem _ hz)) with e | e
          · have := hx z hz; rw [e] at this; omega
          · exact e
        · rcases List.mem_cons.1 ((hm z).2 (List.mem_cons_of_mem _ hz)) with e | e
          · have := hy z hz; rw [e] at this; omega
          · exact e
      rw [this]

theorem Mrg.sub {L O O' : List Spn} (hu : Ups L) (h : Mrg L O) (h' : Mrg L O') {o : Spn} (ho : o ∈ O) : ∃ o' ∈ O', o'.lo ≤ o.lo ∧ o.hi ≤ o'.hi := by
  obtain ⟨p, hp, hpl⟩ := h.low o ho
  obtain ⟨o', ho', h1, h2⟩ := h'.cov p hp
  refine ⟨o', ho', by omega, ?_⟩
  by_cases hc : o.hi ≤ o'.hi
  · exact hc
  · have hle := h.le o ho
    have hpu := hu p hp
    obtain ⟨q, hq, hq1, hq2⟩ := h.link o ho o'.hi (by omega) (by omega)
    obtain ⟨o2, ho2, h3, h4⟩ := h'.cov q hq
    have := sep_one h'.sep ho' ho2 (by have := h'.le o' ho'; omega) (by omega) (h'.le o' ho') (h'.le o2 ho2)
    subst this
    omega

/-- Nothing else is what they come to. -/
theorem Mrg.uniq {L L' O O' : List Spn} (hu : Ups L) (h : Mrg L O) (h' : Mrg L' O') (hm : ∀ p, p ∈ L ↔ p ∈ L') : O = O' := by
  have hu' : Ups L' := fun p hp => hu p ((hm p).2 hp)
  have hx : Mrg L O' := ⟨h'.sep, h'.le, fun p hp => h'.cov p ((hm p).1 hp), fun o ho => (h'.low o ho).imp fun p hp => ⟨(hm p).2 hp.1, hp.2⟩, fun o ho => (h'.high o ho).imp fun p hp => ⟨(hm p).2 hp.1, hp.2⟩, fun o ho y h1 h2 => (h'.link o ho y h1 h2).imp fun p hp => ⟨(hm p).2 hp.1, hp.2⟩, fun o ho => (h'.walk o ho).trans ⟨fun ⟨p, hp, hq⟩ => ⟨p, (hm p).2 hp, hq⟩, fun ⟨p, hp, hq⟩ => ⟨p, (hm p).1 hp, hq⟩⟩⟩
  have key : ∀ {A B : List Spn}, Mrg L A → Mrg L B → ∀ o ∈ A, o ∈ B := by
    intro A B hA hB o ho
    obtain ⟨o', ho', h1, h2⟩ := hA.sub hu hB ho
    obtain ⟨o2, ho2, h3, h4⟩ := hB.sub hu hA ho'
    have e := sep_one hA.sep ho ho2 (by have := hA.le o ho; omega) (by have := hA.le o ho; omega) (hA.le o ho) (hA.le o2 ho2)
    subst e
    have el : o.lo = o'.lo := by omega
    have eh : o.hi = o'.hi := by omega
    have ew : o.walk = o'.walk := by
      have a1 := hA.walk o ho
      have a2 := hB.walk o' ho'
      rw [eh] at a1
      rw [Bool.eq_iff_iff]
      exact a1.trans a2.symm
    have : o = o' := by
      cases o; cases o'
      simp only at el eh ew
      rw [el, eh, ew]
    rw [this]; exact ho'
  exact sep_ext h.sep hx.sep h.le hx.le (fun x => ⟨key h hx x, key hx h x⟩)

/-- In parts. -/
theorem Mrg.comp {L1 L2 O1 O2 : List Spn} (h1 : Mrg L1 O1) (h2 : Mrg (O1 ++ L2) O2) (hu : Ups L1) : Mrg (L1 ++ L2) O2 := by
  refine ⟨h2.sep, h2.le, fun p hp => ?_, fun o ho => ?_, fun o ho => ?_, fun o ho y ha hb => ?_, fun o ho => ⟨fun hw => ?_, ?_⟩⟩
  · rcases List.mem_append.1 hp with hp | hp
    · obtain ⟨o, ho, ha, hb⟩ := h1.cov p hp
      obtain ⟨o', ho', hc, hd⟩ := h2.cov o (List.mem_append_left _ ho)
      exact ⟨o', ho', by omega, by omega⟩
    · exact h2.cov p (List.mem_append_right _ hp)
  · obtain ⟨p, hp, e⟩ := h2.low o ho
    rcases List.mem_append.1 hp with hp | hp
    · obtain ⟨q, hq, e2⟩ := h1.low p hp
      exact ⟨q, List.mem_append_left _ hq, by omega⟩
    · exact ⟨p, List.mem_append_right _ hp, e⟩
  · obtain ⟨p, hp, e⟩ := h2.high o ho
    rcases List.mem_append.1 hp with hp | hp
    · obtain ⟨q, hq, e2⟩ := h1.high p hp
      exact ⟨q, List.mem_append_left _ hq, by omega⟩
    · exact ⟨p, List.mem_append_right _ hp, e⟩
  · obtain ⟨p, hp, e1, e2⟩ := h2.link o ho y ha hb
    rcases List.mem_append.1 hp with hp | hp
    · obtain ⟨q, hq, e⟩ := h1.link p hp y e1 e2
      exact ⟨q, List.mem_append_left _ hq, e⟩
    · exact ⟨p, List.mem_append_right _ hp, e1, e2⟩
  · obtain ⟨p, hp, e1, e2⟩ := (h2.walk o ho).1 hw
    rcases List.mem_append.1 hp with hp | hp
    · obtain ⟨q, hq, e3, e4⟩ := (h1.walk p hp).1 e2
      exact ⟨q, List.mem_append_left _ hq, by omega, e4⟩
    · exact ⟨p, List.mem_append_right _ hp, e1, e2⟩
  · rintro ⟨p, hp, e1, e2⟩
    rcases List.mem_append.1 hp with hp | hp
    · obtain ⟨o', ho', e3, e4⟩ := h1.cov p hp
      obtain ⟨o2, ho2, e5, e6⟩ := h2.cov o' (List.mem_append_left _ ho')
      have hpu := hu p hp
      have hle := h2.le o ho
      have e := sep_one h2.sep ho ho2 (by omega) (by omega) hle (h2.le o2 ho2)
      subst e
      exact (h2.walk o ho).2 ⟨o', List.mem_append_left _ ho', by omega, (h1.walk o' ho').2 ⟨p, hp, by omega, e2⟩⟩
    · exact (h2.walk o ho).2 ⟨p, List.mem_append_right _ hp, e1, e2⟩

theorem Mrg.congr {L L' O : List Spn} (h : Mrg L O) (hm : ∀ p, p ∈ L ↔ p ∈ L') : Mrg L' O :=
  ⟨h.sep, h.le, fun p hp => h.cov p ((hm p).2 hp), fun o ho => (h.low o ho).imp fun p hp => ⟨(hm p).1 hp.1, hp.2⟩, fun o ho => (h.high o ho).imp fun p hp => ⟨(hm p).1 hp.1, hp.2⟩, fun o ho y h1 h2 => (h.link o ho y h1 h2).imp fun p hp => ⟨(hm p).1 hp.1, hp.2⟩, fun o ho => (h.walk o ho).trans ⟨fun ⟨p, hp, hq⟩ => ⟨p, (hm p).1 hp, hq⟩, fun ⟨p, hp, hq⟩ => ⟨p, (hm p).2 hp, hq⟩⟩⟩

theorem Mrg.nil : Mrg [] [] := ⟨List.Pairwise.nil, by simp, by simp, by simp, by simp, by simp, by simp⟩
theorem Mrg.one (s : Spn) (h : s.lo ≤ s.hi) : Mrg [s] [s] :=
  ⟨List.pairwise_singleton _ _, by simpa using h, by simp, by simp, by simp, fun o ho y h1 h2 => by simp at ho; subst ho; exact ⟨o, by simp, h1, h2⟩, fun o ho => by simp at ho; subst ho; simp⟩

theorem Mrg.pair {x s : Spn} (hm : meetS x s = true) (hx : x.lo ≤ x.hi) (hs : s.lo ≤ s.hi) : Mrg [x, s] [joinS x s] := by
  simp only [meetS, Bool.and_eq_true, decide_eq_true_eq] at hm
  have e1 : (joinS x s).lo = min x.lo s.lo := rfl
  have e2 : (joinS x s).hi = max x.hi s.hi := rfl
  refine ⟨List.pairwise_singleton _ _, fun o ho => ?_, fun p hp => ⟨_, List.mem_singleton.2 rfl, ?_⟩, fun o ho => ?_, fun o ho => ?_, fun o ho y h1 h2 => ?_, fun o ho => ?_⟩
  · simp at ho; subst ho; omega
  · simp at hp
    rcases hp with rfl | rfl <;> omega
  · simp at ho; subst ho
    by_cases h : x.lo ≤ s.lo
    · exact ⟨x, by simp, by omega⟩
    · exact ⟨s, by simp, by omega⟩
  · simp at ho; subst ho
    by_cases h : x.hi ≤ s.hi
    · exact ⟨s, by simp, by omega⟩
    · exact ⟨x, by simp, by omega⟩
  · simp at ho; subst ho
    by_cases h : x.lo ≤ y ∧ y < x.hi
    · exact ⟨x, by simp, h⟩
    · exact ⟨s, by simp, by omega, by omega⟩
  · simp at ho; subst ho
    rw [e2]
    simp only [joinS, List.mem_cons, List.not_mem_nil, or_false, Bool.or_eq_true, Bool.and_eq_true, decide_eq_true_eq]
    constructor
    · rintro (⟨a, b⟩ | ⟨a, b⟩)
      · exact ⟨x, .inl rfl, b, a⟩
      · exact ⟨s, .inr rfl, b, a⟩
    · rintro ⟨p, rfl | rfl, a, b⟩
      · exact .inl ⟨b, a⟩
      · exact .inr ⟨b, a⟩

theorem Mrg.app {L1 L2 O1 O2 : List Spn} (h1 : Mrg L1 O1) (h2 : Mrg L2 O2) (_hu1 : Ups L1) (hu2 : Ups L2) (hs : ∀ a ∈ O1, ∀ b ∈ O2, a.hi < b.lo) : Mrg (L1 ++ L2) (O1 ++ O2) := by
  refine ⟨List.pairwise_append.2 ⟨h1.sep, h2.sep, hs⟩, fun o ho => ?_, fun p hp => ?_, fun o ho => ?_, fun o ho => ?_, fun o ho y ha hb => ?_, fun o ho => ⟨fun hw => ?_, ?_⟩⟩
  · rcases List.mem_append.1 ho with ho | ho
    · exact h1.le o ho
    · exact h2.le o ho
  · rcases List.mem_append.1 hp with hp | hp
    · obtain ⟨o, ho, h⟩ := h1.cov p hp; exact ⟨o, List.mem_append_left _ ho, h⟩
    · obtain ⟨o, ho, h⟩ := h2.cov p hp; exact ⟨o, List.mem_append_right _ ho, h⟩
  · rcases List.mem_append.1 ho with ho | ho
    · obtain ⟨p, hp, h⟩ := h1.low o ho; exact ⟨p, List.mem_append_left _ hp, h⟩
    · obtain ⟨p, hp, h⟩ := h2.low o ho; exact ⟨p, List.mem_append_right _ hp, h⟩
  · rcases List.mem_append.1 ho with ho | ho
    · obtain ⟨p, hp, h⟩ := h1.high o ho; exact ⟨p, List.mem_append_left _ hp, h⟩
    · obtain ⟨p, hp, h⟩ := h2.high o ho; exact ⟨p, List.mem_append_right _ hp, h⟩
  · rcases List.mem_append.1 ho with ho | ho
    · obtain ⟨p, hp, h⟩ := h1.link o ho y ha hb; exact ⟨p, List.mem_append_left _ hp, h⟩
    · obtain ⟨p, hp, h⟩ := h2.link o ho y ha hb; exact ⟨p, List.mem_append_right _ hp, h⟩
  · rcases List.mem_append.1 ho with ho | ho
    · obtain ⟨p, hp, h⟩ := (h1.walk o ho).1 hw; exact ⟨p, List.mem_append_left _ hp, h⟩
    · obtain ⟨p, hp, h⟩ := (h2.walk o ho).1 hw; exact ⟨p, List.mem_append_right _ hp, h⟩
  · rintro ⟨p, hp, e1, e2⟩
    rcases List.mem_append.1 ho with ho | ho <;> rcases List.mem_append.1 hp with hp | hp
    · exact (h1.walk o ho).2 ⟨p, hp, e1, e2⟩
    · obtain ⟨b, hb, e3, e4⟩ := h2.cov p hp
      have := hs o ho b hb
      have := hu2 p hp
      omega
    · obtain ⟨b, hb, e3, e4⟩ := h1.cov p hp
      have := hs b hb o ho
      have := h2.le o ho
      omega
    · exact (h2.walk o ho).2 ⟨p, hp, e1, e2⟩

theorem Mrg.self {O : List Spn} (h : O.Pairwise (fun a b => a.hi < b.lo)) (hu : Ups O) : Mrg O O := by
  induction h with
  | nil => exact Mrg.nil
  | @cons x l hx _ ih =>
    refine Mrg.app (L1 := [x]) (O1 := [x]) (Mrg.one x (hu x (by simp))) (ih fun p hp => hu p (by simp [hp])) (fun p hp => hu p (by simp at hp; simp [hp])) (fun p hp => hu p (by simp [hp])) (fun a ha b hb => ?_)
    simp at ha
    subst ha
    exact hx b hb

theorem joinS_le {x s : Spn} (hx : x.lo ≤ x.hi) (hs : s.lo ≤ s.hi) : (joinS x s).lo ≤ (joinS x s).hi := by
  show min x.lo s.lo ≤ max x.hi s.hi
  omega

/-- The reference's put. -/
theorem Mrg.put {R : List Spn} (h : R.Pairwise (fun a b => a.hi < b.lo)) : ∀ {s : Spn}, Ups R → s.lo ≤ s.hi → Mrg (R ++ [s]) (putS R s) := by
  induction h with
  | nil => intro s _ hs; exact Mrg.one s hs
  | @cons x r hx hr ih =>
    intro s hu hs
    have hxu := hu x (by simp)
    have hur : Ups r := fun p hp => hu p (by simp [hp])
    unfold putS
    by_cases hm : meetS x s = true
    · rw [if_pos hm]
      have h1 := ih (s := joinS x s) hur (joinS_le hxu hs)
      have h2 := Mrg.comp (L2 := r) (Mrg.pair hm hxu hs) (h1.congr (L' := [joinS x s] ++ r) (fun p => by simp [or_comm])) (fun p hp => by simp at hp; rcases hp with rfl | rfl <;> assumption)
      exact h2.congr (fun p => by simp; constructor <;> (rintro (h | h | h) <;> simp [h]))
    · rw [if_neg hm]
      simp only [meetS, Bool.and_eq_true, decide_eq_true_eq] at hm
      by_cases hc : s.hi < x.lo
      · rw [if_pos hc]
        refine (Mrg.self (O := s :: x :: r) ?_ ?_).congr (fun p => ?_)
        · refine List.Pairwise.cons (fun b hb => ?_) (List.Pairwise.cons hx hr)
          rcases List.mem_cons.1 hb with rfl | hb
          · exact hc
          · have := hx b hb; omega
        · intro p hp
          simp at hp
          rcases hp with rfl | rfl | hp
          · exact hs
          · exact hxu
          · exact hur p hp
        · simp; constructor <;> (rintro (h | h | h) <;> simp [h])
      · rw [if_neg hc]
        have h1 := ih hur hs
        refine Mrg.app (L1 := [x]) (O1 := [x]) (Mrg.one x hxu) h1 (fun p hp => by simp at hp; subst hp; exact hxu) (fun p hp => ?_) (fun a ha b hb => ?_)
        · simp at hp
          rcases hp with hp | rfl
          · exact hur p hp
          · exact hs
        · simp at ha
          subst ha
          obtain ⟨p, hp, e⟩ := h1.low b hb
          simp at hp
          rcases hp with hp | rfl
          · have := hx p hp; omega
          · omega

theorem Mrg.putAt {L O : List Spn} (h : Mrg L O) (hu : Ups L) {s : Spn} (hs : s.lo ≤ s.hi) : Mrg (L ++ [s]) (putS O s) := Mrg.comp h (Mrg.put h.sep h.le hs) hu

theorem mrgL_aux (l : List Spn) : ∀ {L O : List Spn}, Mrg L O → Ups L → Ups l → Mrg (L ++ l) (l.foldl putS O) := by
  induction l with
  | nil => intro L O h _ _; simpa using h
  | cons s l ih =>
    intro L O h hu hl
    have hs := hl s (by simp)
    have := ih (h.putAt hu hs) (fun p hp => by simp at hp; rcases hp with hp | rfl; exact hu p hp; exact hs) (fun p hp => hl p (by simp [hp]))
    simpa using this
theorem mrgL_mrg {l : List Spn} (hl : Ups l) : Mrg l (mrgL l) := by simpa [mrgL] using mrgL_aux l Mrg.nil (by simp [Ups]) hl

/-- The program's step. -/
theorem Mrg.step {L O : List Spn} (h : Mrg L O) (hu : Ups L) {s : Spn} (hs : s.lo ≤ s.hi) (hle : ∀ p ∈ L, p.lo ≤ s.lo) : Mrg (L ++ [s]) (mstep O s) := by
  refine Mrg.comp h ?_ hu
  have hOle : ∀ o ∈ O, o.lo ≤ s.lo := fun o ho => by obtain ⟨p, hp, e⟩ := h.low o ho; have := hle p hp; omega
  unfold mstep
  rcases List.eq_nil_or_concat O with rfl | ⟨init, t, rfl⟩
  · exact Mrg.one s hs
  · rw [List.concat_eq_append] at h hOle ⊢
    have hsep := List.pairwise_append.1 h.sep
    have htu := h.le t (by simp)
    have hiu : Ups init := fun p hp => h.le p (by simp [hp])
    simp only [List.getLast?_append, List.getLast?_singleton, Option.some_or, List.dropLast_concat]
    by_cases hc : s.lo ≤ t.hi
    · rw [if_pos hc, List.append_assoc]
      have hto := hOle t (by simp)
      refine Mrg.app (Mrg.self hsep.1 hiu) (Mrg.pair (by simp [meetS]; omega) htu hs) hiu (fun p hp => by simp at hp; rcases hp with rfl | rfl <;> assumption) (fun a ha b hb => ?_)
      simp at hb
      subst hb
      have := hsep.2.2 a ha t (by simp)
      show a.hi < min t.lo s.lo
      omega
    · rw [if_neg hc]
      refine Mrg.app (Mrg.self h.sep h.le) (Mrg.one s hs) h.le (fun p hp => by simp at hp; subst hp; exact hs) (fun a ha b hb => ?_)
      simp at hb
      subst hb
      simp at ha
      rcases ha with ha | rfl
      · have := hsep.2.2 a ha t (by simp); have := hOle t (by simp); omega
      · omega

theorem msteps_aux (l : List Spn) : ∀ {L O : List Spn}, Mrg L O → Ups L → Ups l → (L ++ l).Pairwise (fun a b => a.lo ≤ b.lo) → Mrg (L ++ l) (l.foldl mstep O) := by
  induction l with
  | nil => intro L O h _ _ _; simpa using h
  | cons s l ih =>
    intro L O h hu hl hp
    have hs := hl s (by simp)
    have hle : ∀ p ∈ L, p.lo ≤ s.lo := fun p hpL => (List.pairwise_append.1 hp).2.2 p hpL s (by simp)
    have := ih (h.step hu hs hle) (fun p hp => by simp at hp; rcases hp with hp | rfl; exact hu p hp; exact hs) (fun p hp => hl p (by simp [hp])) (by simpa using hp)
    simpa using this

/-- Sorted pieces, merged at the end alone, are the pieces merged. -/
theorem msteps_eq {l d : List Spn} (hl : Ups l) (hp : d.Perm l) (hs : d.Pairwise (fun a b => a.lo ≤ b.lo)) : d.foldl mstep [] = mrgL l := by
  have hd : Ups d := fun p h => hl p (hp.mem_iff.1 h)
  have h1 : Mrg d (d.foldl mstep []) := by simpa using msteps_aux d Mrg.nil (by simp [Ups]) hd (by simpa using hs)
  exact h1.uniq hd (mrgL_mrg hl) (fun p => hp.mem_iff)

def mayAll (l : List Spn) : Bool := l.all mayS
def mrgE (l : List Spn) : Int := if mayAll l then 0 else 2
def mrgR (l : List Spn) : List Spn := if mayAll l then mrgL l else []
theorem mayAll_ups {l : List Spn} (h : mayAll l = true) : Ups l := fun p hp => by
  have := List.all_eq_true.1 h p hp
  simp [mayS] at this
  omega

/-! ### The reference's put, as it goes -/
abbrev PSt := List Spn × Spn × Bool
def pstep (st : PSt) (x : Spn) : PSt := if meetS x st.2.1 then (st.1, joinS x st.2.1, st.2.2) else if !st.2.2 && decide (st.2.1.hi < x.lo) then (st.1 ++ [st.2.1] ++ [x], st.2.1, true) else (st.1 ++ [x], st.2.1, st.2.2)
def putG (l : List Spn) (s : Spn) : List Spn := let st := l.foldl pstep ([], s, false); if st.2.2 then st.1 else st.1 ++ [st.2.1]
theorem psteps_done (l : List Spn) (s : Spn) (hs : ∀ x ∈ l, s.hi < x.lo) : ∀ out, l.foldl pstep (out, s, true) = (out ++ l, s, true) := by
  induction l with
  | nil => intro out; simp
  | cons x l ih =>
    intro out
    have hx := hs x (by simp)
    have hm : meetS x s = false := by simp [meetS]; omega
    rw [List.foldl_cons]
    show List.foldl pstep (pstep (out, s, true) x) l = _
    have : pstep (out, s, true) x = (out ++ [x], s, true) := by simp [pstep, hm]
    rw [this, ih (fun y hy => hs y (by simp [hy]))]
    simp
theorem psteps_aux {l : List Spn} (h : l.Pairwise (fun a b => a.hi < b.lo)) : ∀ (s : Spn) (out : List Spn), Ups l → s.lo ≤ s.hi → (if (l.foldl pstep (out, s, false)).2.2 then (l.foldl pstep (out, s, false)).1 else (l.foldl pstep (out, s, false)).1 ++ [(l.foldl pstep (out, s, false)).2.1]) = out ++ putS l s := by
  induction h with
  | nil => intro s out _ _; simp [putS]
  | @cons x l hx hl ih =>
    intro s out hu hs
    have hxu := hu x (by simp)
    have hul : Ups l := fun p hp => hu p (by simp [hp])
    rw [List.foldl_cons]
    unfold putS
    by_cases hm : meetS x s = true
    · have : pstep (out, s, false) x = (out, joinS x s, false) := by simp [pstep, hm]
      rw [this, if_pos hm]
      exact ih _ _ hul (joinS_le hxu hs)
    · rw [if_neg hm]
      by_cases hc : s.hi < x.lo
      · have : pstep (out, s, false) x = (out ++ [s] ++ [x], s, true) := by simp [pstep, hm, hc]
        rw [this, if_pos hc, psteps_done l s (fun y hy => by have := hx y hy; omega)]
        simp
      · have : pstep (out, s, false) x = (out ++ [x], s, false) := by simp [pstep, hm, hc]
        rw [this, if_neg hc, ih _ _ hul hs]
        simp
theorem putG_eq {l : List Spn} (h : l.Pairwise (fun a b => a.hi < b.lo)) (hu : Ups l) {s : Spn} (hs : s.lo ≤ s.hi) : putG l s = putS l s := by
  have := psteps_aux h s [] hu hs
  simpa [putG] using this
theorem psteps_len (l : List Spn) : ∀ st : PSt, (l.foldl pstep st).1.length + st.2.2.toNat ≤ st.1.length + l.length + (l.foldl pstep st).2.2.toNat := by
  induction l with
  | nil => intro st; simp
  | cons x l ih =>
    intro st
    have := ih (pstep st x)
    rw [List.foldl_cons]
    obtain ⟨o, s, d⟩ := st
    have h2 : (pstep (o, s, d) x).1.length + d.toNat ≤ o.length + 1 + (pstep (o, s, d) x).2.2.toNat := by
      unfold pstep
      cases d <;> by_cases hm : meetS x s = true <;> by_cases hc : s.hi < x.lo <;> simp [hm, hc] <;> omega
    simp only [List.length_cons] at this ⊢
    omega
theorem psteps_len0 (l : List Spn) (s : Spn) : (l.foldl pstep ([], s, false)).1.length ≤ l.length + 1 := by
  have := psteps_len l ([], s, false)
  have := Bool.toNat_le (l.foldl pstep ([], s, false)).2.2
  simp only [List.length_nil, Bool.toNat_false] at *
  omega
theorem take_step {α β : Type} (f : β → α → β) (l : List α) (b : β) {k : Nat} {x : α} (hx : l[k]? = some x) : (l.take (k + 1)).foldl f b = f ((l.take k).foldl f b) x := by
  rw [List.take_add_one, hx, List.foldl_append]; rfl
theorem putG_len (l : List Spn) (s : Spn) : (putG l s).length ≤ l.length + 2 := by
  have := psteps_len0 l s
  unfold putG
  simp only
  split
  · omega
  · rw [List.length_append]; simp; omega

end Go.Proofs.YtjiklfffcnfdjaaGreat

namespace Go.Proofs.YtjiklfffcnfdjaaGreat

theorem putS_len : ∀ (l : List Spn) (s : Spn), (putS l s).length ≤ l.length + 1
  | [], s => by simp [putS]
  | x :: r, s => by
    have h1 := putS_len r s
    have h2 := putS_len r (joinS x s)
    unfold putS
    split
    · simp only [List.length_cons]; omega
    · split
      · simp
      · simp only [List.length_cons]; omega
theorem puts_len (l : List Spn) : ∀ o : List Spn, (l.foldl putS o).length ≤ o.length + l.length := by
  induction l with
  | nil => intro o; simp
  | cons x l ih =>
    intro o
    have := ih (putS o x)
    have := putS_len o x
    simp only [List.foldl_cons, List.length_cons]
    omega
theorem mrgL_len (l : List Spn) : (mrgL l).length ≤ l.length := by simpa [mrgL] using puts_len l []
theorem mrgR_len (l : List Spn) : (mrgR l).length ≤ l.length := by unfold mrgR; split; exact mrgL_len l; simp
theorem mrgR_of {l : List Spn} (h : mayAll l = true) : mrgR l = mrgL l := by simp [mrgR, h]
theorem mrgR_not {l : List Spn} (h : mayAll l = false) : mrgR l = [] := by simp [mrgR, h]
theorem mrgE_of {l : List Spn} (h : mayAll l = true) : mrgE l = 0 := by simp [mrgE, h]
theorem mrgE_not {l : List Spn} (h : mayAll l = false) : mrgE l = 2 := by simp [mrgE, h]
theorem mrgL_take {l : List Spn} {k : Nat} {x : Spn} (hx : l[k]? = some x) : mrgL (l.take (k + 1)) = putS (mrgL (l.take k)) x := take_step _ _ _ hx
theorem mayAll_take {l : List Spn} {k : Nat} {x : Spn} (hx : l[k]? = some x) : mayAll (l.take (k + 1)) = (mayAll (l.take k) && mayS x) := by
  simp [mayAll, List.take_add_one, hx]
theorem mayAll_bad {l : List Spn} {k : Nat} {x : Spn} (hx : l[k]? = some x) (hm : mayS x = false) : mayAll l = false := by
  rw [mayAll, List.all_eq_false]
  exact ⟨x, List.mem_of_getElem? hx, by simp [hm]⟩
theorem mrgL_sep {l : List Spn} (h : mayAll l = true) : (mrgL l).Pairwise (fun a b => a.hi < b.lo) ∧ Ups (mrgL l) := ⟨(mrgL_mrg (mayAll_ups h)).sep, (mrgL_mrg (mayAll_ups h)).le⟩
theorem ref_step {l : List Spn} {k : Nat} {x : Spn} (hx : l[k]? = some x) (h : mayAll (l.take k) = true) (hm : mayS x = true) : putG (mrgL (l.take k)) x = mrgL (l.take (k + 1)) := by
  rw [mrgL_take hx]
  have hs := mrgL_sep h
  exact putG_eq hs.1 hs.2 (by simp [mayS] at hm; omega)

theorem msteps_len (l : List Spn) : ∀ o : List Spn, (l.foldl mstep o).length ≤ o.length + l.length := by
  induction l with
  | nil => intro o; simp
  | cons x l ih =>
    intro o
    have := ih (mstep o x)
    have h2 : (mstep o x).length ≤ o.length + 1 := by
      unfold mstep
      split
      · simp
      · split <;> simp <;> omega
    simp only [List.foldl_cons, List.length_cons]
    omega
def mstL (l : List Spn) (k : Nat) : List Spn := (l.take k).foldl mstep []
theorem mstL_len (l : List Spn) (k : Nat) : (mstL l k).length ≤ k := by
  have := msteps_len (l.take k) []
  have := List.length_take_le k l
  simp only [List.length_nil] at *
  unfold mstL
  omega
theorem mstL_zero (l : List Spn) : mstL l 0 = [] := rfl
theorem mstL_succ {l : List Spn} {k : Nat} {x : Spn} (hx : l[k]? = some x) : mstL l (k + 1) = mstep (mstL l k) x := take_step _ _ _ hx
theorem mstep_nil (x : Spn) : mstep [] x = [x] := rfl
theorem mstep_join {o : List Spn} {t x : Spn} {m : Nat} (hl : o.length = m + 1) (ht : o[m]? = some t) (h : x.lo ≤ t.hi) : mstep o x = o.take m ++ [joinS t x] := by
  have h1 : o.getLast? = some t := by rw [List.getLast?_eq_getElem?, hl]; simpa using ht
  unfold mstep
  rw [h1]
  simp only [h, if_true]
  rw [List.dropLast_eq_take, hl]; rfl
theorem mstep_app {o : List Spn} {t x : Spn} {m : Nat} (hl : o.length = m + 1) (ht : o[m]? = some t) (h : ¬ x.lo ≤ t.hi) : mstep o x = o ++ [x] := by
  have h1 : o.getLast? = some t := by rw [List.getLast?_eq_getElem?, hl]; simpa using ht
  unfold mstep
  rw [h1]
  simp only [h, if_false]

/-! ### Tops and bottoms -/
def someAt (l : List Spn) (o : Spn) : Bool := l.any (fun p => decide (p.hi = o.hi) && p.walk)
def botAt (l : List Spn) (o : Spn) : Bool := l.any (fun p => decide (p.lo = o.lo))
theorem tops_ok {l : List Spn} (h : mayAll l = true) {o : Spn} (ho : o ∈ mrgL l) : someAt l o = o.walk ∧ botAt l o = true := by
  have hm := mrgL_mrg (mayAll_ups h)
  constructor
  · rw [Bool.eq_iff_iff, hm.walk o ho]
    simp [someAt, List.any_eq_true]
  · obtain ⟨p, hp, e⟩ := hm.low o ho
    simp only [botAt, List.any_eq_true, decide_eq_true_eq]
    exact ⟨p, hp, e⟩

/-! ### Where a height is -/
def inAt (y : Int) (p : Spn) : Bool := decide (p.lo ≤ y) && decide (y ≤ p.hi)
theorem Mrg.in_iff {L O : List Spn} (h : Mrg L O) (hu : Ups L) (y : Int) : (∃ p ∈ L, p.lo ≤ y ∧ y ≤ p.hi) ↔ ∃ o ∈ O, o.lo ≤ y ∧ y ≤ o.hi := by
  constructor
  · rintro ⟨p, hp, h1, h2⟩
    obtain ⟨o, ho, h3, h4⟩ := h.cov p hp
    exact ⟨o, ho, by omega, by omega⟩
  · rintro ⟨o, ho, h1, h2⟩
    by_cases hy : y < o.hi
    · obtain ⟨p, hp, h3, h4⟩ := h.link o ho y h1 hy
      exact ⟨p, hp, h3, by omega⟩
    · obtain ⟨p, hp, e⟩ := h.high o ho
      have := hu p hp
      exact ⟨p, hp, by omega, by omega⟩
theorem count_one {O : List Spn} (h : O.Pairwise (fun a b => a.hi < b.lo)) (hu : Ups O) (y : Int) : O.countP (inAt y) = if O.any (inAt y) then 1 else 0 := by
  induction h with
  | nil => rfl
  | @cons x l hx hl ih =>
    have ih := ih (fun p hp => hu p (List.mem_cons_of_mem _ hp))
    rw [List.countP_cons, List.any_cons, ih]
    by_cases hy : inAt y x = true
    · have : l.any (inAt y) = false := by
        rw [List.any_eq_false]
        intro p hp
        have := hx p hp
        simp [inAt] at hy ⊢
        omega
      simp [hy, this]
    · simp [hy]

end Go.Proofs.YtjiklfffcnfdjaaGreat

namespace Go.Proofs.YtjiklfffcnfdjaaGreat

theorem mayAll_iff {l : List Spn} : mayAll l = true ↔ ∀ p ∈ l, p.lo ≤ p.hi ∧ -2048 ≤ p.lo ∧ p.hi ≤ 2048 := by
  simp [mayAll, List.all_eq_true, mayS, and_assoc]
theorem mayAll_perm {l m : List Spn} (h : m.Perm l) : mayAll m = mayAll l := by
  rw [Bool.eq_iff_iff, mayAll_iff, mayAll_iff]
  exact ⟨fun q p hp => q p (h.mem_iff.2 hp), fun q p hp => q p (h.mem_iff.1 hp)⟩
theorem mrgL_perm {l m : List Spn} (h : m.Perm l) (hl : mayAll l = true) : mrgL m = mrgL l :=
  Mrg.uniq (mayAll_ups ((mayAll_perm h).trans hl)) (mrgL_mrg (mayAll_ups ((mayAll_perm h).trans hl))) (mrgL_mrg (mayAll_ups hl)) (fun _ => h.mem_iff)
theorem mrgR_perm {l m : List Spn} (h : m.Perm l) : mrgR m = mrgR l := by
  cases hl : mayAll l with
  | true => rw [mrgR_of hl, mrgR_of ((mayAll_perm h).trans hl), mrgL_perm h hl]
  | false => rw [mrgR_not hl, mrgR_not ((mayAll_perm h).trans hl)]
theorem mrgE_perm {l m : List Spn} (h : m.Perm l) : mrgE m = mrgE l := by
  cases hl : mayAll l with
  | true => rw [mrgE_of hl, mrgE_of ((mayAll_perm h).trans hl)]
  | false => rw [mrgE_not hl, mrgE_not ((mayAll_perm h).trans hl)]
theorem mrgL_may {l : List Spn} (hl : mayAll l = true) : mayAll (mrgL l) = true := by
  have hm := mrgL_mrg (mayAll_ups hl)
  rw [mayAll_iff] at hl ⊢
  intro o ho
  obtain ⟨p, hp, e1⟩ := hm.low o ho
  obtain ⟨q, hq, e2⟩ := hm.high o ho
  have := hl p hp
  have := hl q hq
  exact ⟨hm.le o ho, by omega, by omega⟩
theorem mrgL_twice {l : List Spn} (hl : mayAll l = true) : mrgL (mrgL l) = mrgL l := by
  have hm := mrgL_mrg (mayAll_ups hl)
  exact Mrg.uniq hm.le (mrgL_mrg hm.le) (Mrg.self hm.sep hm.le) (fun _ => Iff.rfl)
theorem mayAll_app {l m : List Spn} : mayAll (l ++ m) = (mayAll l && mayAll m) := by simp [mayAll]
theorem mayAll_takedrop {l : List Spn} (hl : mayAll l = true) (k : Nat) : mayAll (l.take k) = true ∧ mayAll (l.drop k) = true := by
  rw [← List.take_append_drop k l, mayAll_app, Bool.and_eq_true] at hl
  exact hl
theorem parts_may {l : List Spn} (hl : mayAll l = true) (k : Nat) : mayAll (mrgL (l.take k) ++ l.drop k) = true := by
  have h := mayAll_takedrop hl k
  rw [mayAll_app, mrgL_may h.1, h.2]; rfl
theorem mrgL_parts {l : List Spn} (hl : mayAll l = true) (k : Nat) : mrgL (mrgL (l.take k) ++ l.drop k) = mrgL l := by
  have h := mayAll_takedrop hl k
  have h1 := mrgL_mrg (mayAll_ups h.1)
  have h2 := mrgL_mrg (mayAll_ups (parts_may hl k))
  have h3 := Mrg.comp h1 h2 (mayAll_ups h.1)
  rw [List.take_append_drop] at h3
  exact (Mrg.uniq (mayAll_ups hl) (mrgL_mrg (mayAll_ups hl)) h3 (fun _ => Iff.rfl)).symm
theorem sep_at {M : List Spn} (h : M.Pairwise (fun a b => a.hi < b.lo)) {k : Nat} {x p : Spn} (hk : 0 < k) (hx : M[k]? = some x) (hp : M[k - 1]? = some p) : ¬ x.lo ≤ p.hi := by
  obtain ⟨h1, e1⟩ := List.getElem?_eq_some_iff.1 hx
  obtain ⟨h2, e2⟩ := List.getElem?_eq_some_iff.1 hp
  have := List.pairwise_iff_getElem.1 h (k - 1) k h2 h1 (by omega)
  rw [e1, e2] at this
  omega
theorem any_succ {l : List Spn} {k : Nat} {x : Spn} (hx : l[k]? = some x) (y : Int) : (l.take (k + 1)).any (inAt y) = ((l.take k).any (inAt y) || (decide (x.lo ≤ y) && decide (y ≤ x.hi))) := by
  simp [List.take_add_one, hx, inAt]
theorem count_succ {l : List Spn} {k : Nat} {x : Spn} (hx : l[k]? = some x) (y : Int) : (l.take (k + 1)).countP (inAt y) = (l.take k).countP (inAt y) + (if decide (x.lo ≤ y) && decide (y ≤ x.hi) then 1 else 0) := by
  simp only [List.take_add_one, hx, List.countP_append, Option.toList_some]
  rw [List.countP_cons, List.countP_nil, Nat.zero_add]
  rfl
theorem count_le_take (l : List Spn) (k : Nat) (y : Int) : (l.take k).countP (inAt y) ≤ k := by
  have := List.countP_le_length (p := inAt y) (l := l.take k)
  have := List.length_take_le k l
  omega
theorem height_ok {l : List Spn} (hl : mayAll l = true) (y : Int) : (mrgL l).countP (inAt y) = if l.any (inAt y) then 1 else 0 := by
  have hm := mrgL_mrg (mayAll_ups hl)
  rw [count_one hm.sep hm.le y]
  have : (mrgL l).any (inAt y) = l.any (inAt y) := by
    have h := hm.in_iff (mayAll_ups hl) y
    rw [Bool.eq_iff_iff]
    simp only [List.any_eq_true, inAt, Bool.and_eq_true, decide_eq_true_eq]
    exact h.symm
  rw [this]
theorem cut_at (c : Int) (n : Nat) : ∃ k : Nat, k ≤ n ∧ ((c.tmod ((n : Int) + 1)) + ((n : Int) + 1)).tmod ((n : Int) + 1) = (k : Int) := by
  have h0 : (0 : Int) < (n : Int) + 1 := by omega
  have h1 : -((n : Int) + 1) < c.tmod ((n : Int) + 1) := by
    have := Int.lt_tmod_of_pos c h0
    omega
  have h2 : 0 ≤ ((c.tmod ((n : Int) + 1)) + ((n : Int) + 1)).tmod ((n : Int) + 1) := Int.tmod_nonneg _ (by omega)
  have h3 := Int.tmod_lt_of_pos ((c.tmod ((n : Int) + 1)) + ((n : Int) + 1)) h0
  exact ⟨_, by omega, (Int.toNat_of_nonneg h2).symm⟩
theorem tmod_bounds (c : Int) (n : Nat) : -((n : Int) + 1) < c.tmod ((n : Int) + 1) ∧ c.tmod ((n : Int) + 1) < (n : Int) + 1 := by
  have h0 : (0 : Int) < (n : Int) + 1 := by omega
  exact ⟨by have := Int.lt_tmod_of_pos c h0; omega, Int.tmod_lt_of_pos c h0⟩

/-! ### A row in another order -/
def swapS (l : List Spn) (i k : Nat) (x y : Spn) : List Spn := (l.set i y).set k x
theorem swap_perm {l : List Spn} {i k : Nat} {x y : Spn} (hx : l[i]? = some x) (hy : l[k]? = some y) : (swapS l i k x y).Perm l := by
  obtain ⟨h1, e1⟩ := List.getElem?_eq_some_iff.1 hx
  obtain ⟨h2, e2⟩ := List.getElem?_eq_some_iff.1 hy
  unfold swapS
  subst e1 e2
  exact List.set_set_perm h1 h2
end Go.Proofs.YtjiklfffcnfdjaaGreat
