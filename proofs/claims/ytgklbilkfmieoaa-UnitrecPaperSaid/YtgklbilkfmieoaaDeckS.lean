/- Decks: reading them, and what spoil leaves. -/
import Derived.Test.YtgklbilkfmieoaaPunDo
import Derived.Test.YtgklbilkfmieoaaLawPr
namespace Go.Proofs.Ytgklbilkfmieoaa
open Go.RowKit

theorem same_eq (A C : Option Addr) (l : List UInt8) (c d : Nat) (w : World) (B : Nat) (ha : At w B A (Lib.byteCells l)) (hc : At w B C (Lib.byteCells l)) (hl : l.length ≤ maxLen) :
    Calls Try.prog 24 #[.slice A l.length c, .slice C l.length d] w fun e w' => e = .returned (.bool true) ∧ Still w w' :=
  (same_any A C l l c d w B ha hc hl hl).mono fun e w' h => ⟨by rw [h.1]; simp, h.2⟩
section
variable {W w w' : World} {F : List SA}
theorem deck_cell {A : Option Addr} {n c : Nat} {cs : List (List UInt8)} (S : SL W (deckS (.slice A n c) cs :: F) w) {j : Nat} {x : List UInt8} (hj : cs[j]? = some x) :
    ∃ b A' c', A = some ⟨b, 0, none⟩ ∧ w.cell? ⟨b, j, none⟩ = some (.slice A' x.length c') ∧ At w w.heap.size A' (Lib.byteCells x) ∧ x.length ≤ c' ∧ c' ≤ maxLen := by
  obtain ⟨ps, rfl, S8⟩ := deckS_open S
  have hn : n = ps.length := by obtain ⟨_, _, e, _⟩ := own_slice S8.own; injection e
  subst hn
  rw [List.getElem?_map] at hj
  cases hp : ps[j]? with
  | none => rw [hp] at hj; cases hj
  | some p =>
    rw [hp] at hj
    injection hj with hj
    subst hj
    obtain ⟨b7, rfl, _, c7⟩ := S8.cellAt (j := j) (u := p.1) (by rw [List.getElem?_map, hp]; rfl)
    have S9 := SL.take S8.s1 (i := j) (P := cardS p) (by rw [List.getElem?_map, hp]; rfl)
    unfold cardS at S9
    obtain ⟨A8, c8, e8, h8, h9⟩ := own_slice S9.own
    rw [e8] at S9 c7
    exact ⟨b7, A8, c8, rfl, c7, S9.at_, h8, h9⟩
theorem deck_len {v : Value} {cs : List (List UInt8)} (S : SL W (deckS v cs :: F) w) : ∃ A c, v = .slice A cs.length c ∧ cs.length ≤ c ∧ c ≤ maxLen := by
  obtain ⟨ps, rfl, S8⟩ := deckS_open S
  rw [List.length_map]
  exact own_slice S8.own
theorem star_mem : ∀ {L : List SA} {P : SA} {h : Hp}, star L h → P ∈ L → ∃ h1, P h1 ∧ Hp.le h1 h
  | a :: L, P, h, ⟨h1, h2, p, q, _, l1, l2⟩, m => by
    rcases List.mem_cons.1 m with rfl | m
    · exact ⟨h1, p, l1⟩
    · obtain ⟨h3, p3, l3⟩ := star_mem q m
      exact ⟨h3, p3, Hp.le_trans l3 l2⟩
/-- What only the blocks of P may have turned: P itself is given up. -/
theorem SL.lose {P : SA} {T : Nat → Prop} (S : SL W (P :: F) w) (hf : Fr T w w') (hT : ∀ h, P h → ∀ b, T b → ∃ o, h b = some o) : SL W F w' :=
  SL.drop (SL.frame (Q := fun _ => True) S (fun h p _ b _ t => hT h p b t) hf fun _ _ _ => ⟨fun _ => none, trivial, by intro b o e; cases e⟩)
theorem spoilS {A : Option Addr} {n c : Nat} {cs : List (List UInt8)} (S : SL W (deckS (.slice A n c) cs :: F) w) :
    Calls Try.prog 18 #[.slice A n c] w fun e w' => e = .returned (.tuple #[]) ∧ SL W F w' := by
  obtain ⟨ps, rfl, S8⟩ := deckS_open S
  have hn : n = (ps.map Prod.fst).length := by obtain ⟨_, _, e, _⟩ := own_slice S8.own; injection e with _ e _; rw [List.length_map]; exact e
  subst hn
  have ho := S8.own
  rw [← List.length_map (f := Prod.fst)] at ho
  refine (spoil_any A c (ps.map Prod.fst) w (own_mono ho (Nat.zero_le _)) ?_).mono ?_
  · intro v hv
    obtain ⟨p, hp, rfl⟩ := List.mem_map.1 hv
    obtain ⟨j, hj, rfl⟩ := List.mem_iff_getElem.1 hp
    have S9 := SL.take S8.s1 (i := j) (P := cardS ps[j]) (by simp [hj])
    unfold cardS at S9
    obtain ⟨A8, c8, e8, _, _⟩ := own_slice S9.own
    have := S9.own
    rw [e8] at this ⊢
    exact Wr.of_own (B := W.heap.size) this
  · rintro e w' ⟨rfl, hf⟩
    refine ⟨rfl, SL.lose S8.s1 hf ?_ |>.drop⟩
    rintro h hs b ⟨v, hv, hb⟩
    obtain ⟨p, hp, rfl⟩ := List.mem_map.1 hv
    obtain ⟨h1, p1, l1⟩ := star_mem hs (List.mem_map_of_mem (f := cardS) hp)
    rcases p1.2 with ⟨e, _⟩ | ⟨x, cap, cur, e, hx, _⟩
    · rw [e] at hb; simp [Value.ownBlock] at hb
    · rw [e] at hb; simp [Value.ownBlock] at hb
      subst hb
      exact ⟨_, l1 _ _ hx⟩
/-- A literal of two byte slices is a deck. -/
theorem deck_two {v1 v2 : Value} {l1 l2 : List UInt8} (S : SL W (rowS 5 1 v1 l1.length (Lib.byteCells l1) :: rowS 5 1 v2 l2.length (Lib.byteCells l2) :: F) w) :
    SL W (deckS (.slice (some ⟨w.heap.size, 0, none⟩) 2 2) [l1, l2] :: F) (w.alloc (.cells #[v1, v2] 31)) :=
  deckS_close (ps := [(v1, l1), (v2, l2)]) ((SL.app (L := [cardS (v1, l1), cardS (v2, l2)]) S).lit #[v1, v2] 31 1 2 rfl (by decide))
end
end Go.Proofs.Ytgklbilkfmieoaa
