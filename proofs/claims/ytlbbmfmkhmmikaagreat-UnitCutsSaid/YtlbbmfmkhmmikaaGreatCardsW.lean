/- A list of byte slices as an argument, of the form's own size. -/
import Derived.Test.YtlbbmfmkhmmikaaGreatURdA
import Derived.SizedLaws
namespace Go.Proofs.YtlbbmfmkhmmikaaGreat.U
open Go.ChangeShapes Go.WideShapes Go.ChangeAt Go.RowKit Go.Deep
section
variable {H : Type} {enc : TypeId × Value → H} {P : Program} {w : World} {base : Nat} {spare : Nat → Bool} {held : Bool}
theorem weightsAll_mem {e : TypeId} {d : DataW H} {n : Nat} : ∀ {l : List (DataW H)}, d ∈ l → n ∈ d.weights P e → n ∈ DataW.weightsAll P e l
  | [], h, _ => by cases h
  | x :: l, h, hn => by
    simp only [DataW.weightsAll, List.mem_append]
    rcases List.mem_cons.1 h with rfl | h
    · exact Or.inl hn
    · exact Or.inr (weightsAll_mem h hn)
theorem card_weight {R : Nat} {fuel : Nat} {t e : TypeId} {c : CardV} {x : DataW H × List MemPlace} (ht : P.underlying t = some (.slice e)) (hc : P.cellsOf e = 1) (hb : P.bytesOf e = 1) (h : DataW.trod enc P w base spare held fuel t [cardV c] = some x) (hR : ∀ n ∈ DataW.weights P t x.1, n ≤ R) : c.2.1.length ≤ R := by
  rcases open_slice1 ht hc h with ⟨hcs, _⟩ | ⟨a, len, cap, m, n, V, D, Pl, hcs, _, hl, hm, hmm, hxe, hx⟩
  · have := (List.cons.inj hcs).1
    unfold cardV at this
    injection this with _ h0 _
    omega
  · have := (List.cons.inj hcs).1
    unfold cardV at this
    injection this with _ h0 _
    have h1 := hR ((len + (m - len)) * 1) (by rw [hxe]; simp [DataW.weights, ht, hb])
    omega
theorem open_cardsW {R : Nat} {fuel : Nat} {t e b : TypeId} {v : Value} {x : DataW H × List MemPlace} (ht : P.underlying t = some (.slice e)) (hce : P.cellsOf e = 1) (he : P.underlying e = some (.slice b)) (hb : P.underlying b = some (.int .u8)) (hcb : P.cellsOf b = 1) (hbb : P.bytesOf b = 1)
    (h : DataW.trod enc P w base spare held fuel t [v] = some x) (hR : ∀ n ∈ DataW.weights P t x.1, n ≤ R) :
    ∃ (a : Option Addr) (xs : List CardV) (cap : Nat), v = .slice a xs.length cap ∧ xs.length ≤ cap ∧ cap ≤ maxLen ∧ At w w.heap.size a (xs.map cardV) ∧ (∀ x ∈ xs, CardV.good w w.heap.size x) ∧ ∀ x ∈ xs, x.2.1.length ≤ R := by
  rcases open_slice1 ht hce h with ⟨hcs, _⟩ | ⟨a, len, cap, m, n, V, D, Pl, hcs, _, hl, hm, hmm, hxe, hx⟩
  · exact ⟨none, [], 0, (List.cons.inj hcs).1, Nat.le_refl _, Nat.zero_le _, At.nil_, by simp, by simp⟩
  · have hlm : len ≤ m := by rw [hmm]; split <;> omega
    have hw1 : ∀ i, i < len → ∀ n ∈ DataW.weights P e (D i), n ≤ R := fun i hi n hn => hR n (by
      rw [hxe]
      simp only [DataW.weights, ht, List.mem_cons, List.mem_append]
      exact Or.inr (Or.inl (weightsAll_mem (List.mem_map.2 ⟨i, List.mem_range.2 hi, rfl⟩) hn)))
    obtain ⟨f, hf⟩ := choose_lt (α := CardV) (n := len) (p := fun i c => V i = cardV c ∧ CardV.good w w.heap.size c ∧ c.2.1.length ≤ R) (fun i hi => by
      obtain ⟨_, h2⟩ := hx i (by omega)
      obtain ⟨c, hc, hg⟩ := open_card he hb hcb h2
      refine ⟨c, hc, hg, ?_⟩
      rw [hc] at h2
      exact card_weight he hcb hbb h2 (hw1 i hi))
    refine ⟨some a, (List.range len).map f, cap, by rw [(List.cons.inj hcs).1]; simp, by simpa using hl, hm, at_of_cells fun j hj => ?_, ?_, ?_⟩
    · simp only [List.length_map, List.length_range] at hj
      rw [(hx j (by omega)).1, (hf j hj).1]
      simp [hj]
    · intro x hx
      simp only [List.mem_map, List.mem_range] at hx
      obtain ⟨i, hi, rfl⟩ := hx
      exact (hf i hi).2.1
    · intro x hx
      simp only [List.mem_map, List.mem_range] at hx
      obtain ⟨i, hi, rfl⟩ := hx
      exact (hf i hi).2.2
end
end Go.Proofs.YtlbbmfmkhmmikaaGreat.U
