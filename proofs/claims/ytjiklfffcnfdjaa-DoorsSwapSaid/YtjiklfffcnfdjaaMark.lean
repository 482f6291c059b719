/- Marks: a loop over an iterator inside a loop leaves one mark a round. -/
import Derived.Test.YtjiklfffcnfdjaaRound
namespace Go.Proofs.Ytjiklfffcnfdjaa
open Go.RowKit Go.Shelf Go.Sort

def mark (D : Nat) : Deferred := { target := .collected D, args := #[] }
/-- The marks that have been left, in the world. -/
structure Marks (H B : Nat) (W : World) (Ds : List Nat) : Prop where
  nd : Ds.Nodup
  at_ : ∀ D ∈ Ds, H ≤ D ∧ D < B ∧ W.heap[D]? = some (.deferred (some []))
theorem Marks.nil (H B : Nat) (W : World) : Marks H B W [] := ⟨List.nodup_nil, fun _ h => by cases h⟩
theorem Marks.mono {H B B' : Nat} {W : World} {Ds : List Nat} (h : Marks H B W Ds) (hB : B ≤ B') : Marks H B' W Ds := ⟨h.nd, fun D hD => ⟨(h.at_ D hD).1, Nat.lt_of_lt_of_le (h.at_ D hD).2.1 hB, (h.at_ D hD).2.2⟩⟩
theorem Marks.kept {H B : Nat} {W W' : World} {Ds : List Nat} (h : Marks H B W Ds) (hk : ∀ D ∈ Ds, D < B → W.heap[D]? = some (.deferred (some [])) → W'.heap[D]? = W.heap[D]?) : Marks H B W' Ds :=
  ⟨h.nd, fun D hD => ⟨(h.at_ D hD).1, (h.at_ D hD).2.1, (hk D hD (h.at_ D hD).2.1 (h.at_ D hD).2.2).trans (h.at_ D hD).2.2⟩⟩
theorem Marks.below {H B m : Nat} {W W' : World} {Ds : List Nat} (h : Marks H B W Ds) (hb : Below m W W') (hm : B ≤ m) : Marks H B W' Ds := h.kept fun D _ hlt _ => hb.block D (Nat.lt_of_lt_of_le hlt hm)
theorem Marks.alloc {H B : Nat} {W : World} {Ds : List Nat} (h : Marks H B W Ds) (o : Obj) : Marks H B (W.alloc o) Ds := h.kept fun D _ _ hd => Below.heap_alloc W o D (Array.getElem?_eq_some_iff.1 hd).1
theorem Marks.setCell {H B : Nat} {W : World} {Ds : List Nat} (h : Marks H B W Ds) {p : Addr} (hp : ∀ o, W.heap[p.block]? = some o → o.isCells = true) (v : Value) : Marks H B (W.setCell p v) Ds :=
  h.kept fun D _ _ hd => Below.heap_setCell W p v D (fun e => by subst e; have := hp _ hd; cases this)
theorem Marks.cons {H B B' D : Nat} {W : World} {Ds : List Nat} (h : Marks H B W Ds) (hH : H ≤ D) (hB : B ≤ D) (hB' : D < B') (hd : W.heap[D]? = some (.deferred (some []))) : Marks H B' W (D :: Ds) := by
  refine ⟨List.nodup_cons.2 ⟨fun hm => ?_, h.nd⟩, fun D' hD' => ?_⟩
  · have := (h.at_ D hm).2.1
    omega
  · rcases List.mem_cons.1 hD' with rfl | h1
    · exact ⟨hH, hB', hd⟩
    · exact ⟨(h.at_ D' h1).1, by have := (h.at_ D' h1).2.1; omega, (h.at_ D' h1).2.2⟩
theorem ownFrom_marks {β : Type} {H B L : Nat} {Ds : List Nat} (hL : B ≤ L) : OwnFrom L (fun (_ : β) W => Marks H B W Ds) := fun _ A Bw row hs hg hr =>
  hs.kept fun D _ hlt hd => hg.block D (Array.getElem?_eq_some_iff.1 hd).1 (fun e => by have := (hr D e.symm).1; omega)

/-- On the way out the marks are taken over, one by one. -/
theorem leaves_marks {F : Fence} {n : Nat} {P : Program} {fn : Func} {tmps : Array Value} {R : Ending → World → Prop} {u : FrameMode} {H B : Nat} (J : World → Prop)
    (hu : u ≠ .run) (hJ : ∀ W D, J W → H ≤ D → W.heap[D]? = some (.deferred (some [])) → J (W.putObj D (.deferred none))) :
    ∀ (Ds : List Nat) (W : World), Marks H B W Ds → J W → (∀ W', J W' → LeavesInM F n P fn tmps R [] u W') → LeavesInM F n P fn tmps R (Ds.map mark) u W
  | [], W, _, hj, h => h W hj
  | D :: Ds, W, hm, hj, h => by
    obtain ⟨h1, h2, h3⟩ := hm.at_ D (by simp)
    refine ⟨hu, .inl ⟨D, _, rfl, run_takeDeferred h3, leaves_marks (B := B) J hu hJ Ds _ ?_ (hJ W D hj h1 h3) h⟩⟩
    refine ⟨(List.nodup_cons.1 hm.nd).2, fun D' hD' => ?_⟩
    obtain ⟨k1, k2, k3⟩ := hm.at_ D' (List.mem_cons_of_mem _ hD')
    refine ⟨k1, k2, ((grownBy_putObj' W D (.deferred none)).block D' (Array.getElem?_eq_some_iff.1 k3).1 (fun e => ?_)).trans k3⟩
    cases e
    exact (List.nodup_cons.1 hm.nd).1 hD'

end Go.Proofs.Ytjiklfffcnfdjaa
