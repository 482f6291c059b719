/- Plain: where doors' numbers lie; doors moved back one by one. -/
import Derived.Test.YtjiklfffcnfdjaaDorP
namespace Go.Proofs.Ytjiklfffcnfdjaa

def drB (d : Dr) : Prop := 0 ≤ d.x0 ∧ d.x0 ≤ 40 ∧ 0 ≤ d.z0 ∧ d.z0 ≤ 40 ∧ 0 ≤ d.x1 ∧ d.x1 ≤ 40 ∧ 0 ≤ d.z1 ∧ d.z1 ≤ 40
theorem prs_bd {cf : Cfg} {a b : Rc} {up : Bool} (ha : rcBd a = true) (hb : rcBd b = true) : ∀ d ∈ prs cf a b up, drB d := by
  obtain ⟨u1, u2, u3, u4, u5, u6, _, _⟩ := rcBd_iff.1 ha
  obtain ⟨v1, v2, v3, v4, v5, v6, _, _⟩ := rcBd_iff.1 hb
  intro d hd
  unfold prs prsTo at hd
  rw [List.mem_flatMap] at hd
  obtain ⟨i, hi, hd⟩ := hd
  rw [List.mem_range] at hi
  unfold prLen at hi
  split at hi
  · unfold prOne at hd
    split at hd
    · rw [List.mem_singleton] at hd
      subst hd
      cases up <;> simp only [prFrom, prTo, prD, drB, Bool.false_eq_true, if_false, if_true] at hi ⊢ <;> omega
    · cases hd
  · cases hi
theorem addD_bd {l : List Dr} {d : Dr} (hl : ∀ e ∈ l, drB e) (hd : drB d) : ∀ e ∈ addD l d, drB e := by
  intro e he
  unfold addD at he
  split at he
  · rename_i g hg
    split at he
    · rcases List.mem_append.1 he with h | h
      · exact hl e (List.dropLast_subset _ h)
      · rw [List.mem_singleton] at h
        subst h
        have hg' := hl g (List.mem_of_getLast? hg)
        unfold drB at *
        simp only
        omega
    · rcases List.mem_append.1 he with h | h
      · exact hl e h
      · rw [List.mem_singleton] at h; exact h ▸ hd
  · rcases List.mem_append.1 he with h | h
    · exact hl e h
    · rw [List.mem_singleton] at h; exact h ▸ hd
theorem foldD_bd : ∀ (m l : List Dr), (∀ e ∈ l, drB e) → (∀ e ∈ m, drB e) → ∀ e ∈ m.foldl addD l, drB e := by
  intro m
  induction m with
  | nil => intro l hl _; exact hl
  | cons d m ih =>
    intro l hl hm
    rw [List.foldl_cons]
    exact ih _ (addD_bd hl (hm d (by simp))) (fun e he => hm e (by simp [he]))
theorem betw_bd (cf : Cfg) (a b : Rc) : ∀ d ∈ betw cf a b, drB d := by
  unfold betw
  split
  · rename_i h
    have ha := rcOk_bd h.1
    have hb := rcOk_bd h.2
    refine foldD_bd _ _ (by simp) ?_
    unfold betwL
    intro d hd
    simp only [List.mem_append] at hd
    rcases hd with h | h | h | h
    · exact prs_bd ha hb d h
    · exact prs_bd hb ha d h
    · exact prs_bd ha hb d h
    · exact prs_bd hb ha d h
  · simp
/-- The first k are moved back. -/
def mixD (L : List Dr) (x z : Int) (k : Nat) : List Dr := L.take k ++ (L.drop k).map (mvD · x z)
theorem mixD_zero (L : List Dr) (x z : Int) : mixD L x z 0 = L.map (mvD · x z) := by unfold mixD; simp
theorem mixD_all (L : List Dr) (x z : Int) : mixD L x z L.length = L := by unfold mixD; simp
theorem mixD_at {L : List Dr} {x z : Int} {k : Nat} {e : Dr} (h : L[k]? = some e) : (mixD L x z k)[k]? = some (mvD e x z) := by
  obtain ⟨hk, he⟩ := List.getElem?_eq_some_iff.1 h
  unfold mixD
  rw [List.getElem?_append_right (by simp; omega), List.length_take, Nat.min_eq_left (by omega), Nat.sub_self, List.drop_eq_getElem_cons hk, List.map_cons, he]
  rfl
theorem mixD_set {L : List Dr} {x z : Int} {k : Nat} {e : Dr} (h : L[k]? = some e) : (mixD L x z k).set k e = mixD L x z (k + 1) := by
  obtain ⟨hk, he⟩ := List.getElem?_eq_some_iff.1 h
  unfold mixD
  rw [List.set_append_right _ _ (by simp; omega), List.length_take, Nat.min_eq_left (by omega), Nat.sub_self, List.drop_eq_getElem_cons hk, List.map_cons, List.set_cons_zero, List.take_succ_eq_append_getElem hk, he, List.append_assoc]
  rfl
theorem mixD_len (L : List Dr) (x z : Int) (k : Nat) : (mixD L x z k).length = L.length := by
  unfold mixD
  rw [List.length_append, List.length_map, ← List.length_append, List.take_append_drop]
end Go.Proofs.Ytjiklfffcnfdjaa
