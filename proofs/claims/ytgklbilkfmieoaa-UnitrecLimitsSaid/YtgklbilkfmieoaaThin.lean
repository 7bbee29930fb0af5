/- The printer of the program as an assertion that lies apart (over its elder contracts). -/
import Derived.Test.YtgklbilkfmieoaaPunDo
import Derived.Test.YtgklbilkfmieoaaLawPr
namespace Go.Proofs.Ytgklbilkfmieoaa
open Go.RowKit

/-- No line in it. -/
def NoLine : Obj → Prop
  | .cells _ t _ => t ≠ 45
  | _ => True
/-- Whoever holds P holds it with blocks that are no lines. -/
def Thin (P : SA) : Prop := ∀ h, P h → ∃ h', Hp.le h' h ∧ P h' ∧ ∀ b o, h' b = some o → NoLine o
theorem thin_cel {b : Nat} {cs : Array Value} {t : TypeId} (ht : t ≠ 45) : Thin (cel b cs t) := fun h p =>
  ⟨fun x => if x = b then some (.cells cs t (0, 0)) else none, (by
    intro x o e
    try dsimp only at e
    split at e
    · rename_i hx; subst hx; rw [← e]; exact p
    · cases e), (by simp [cel, pts]), (by
    intro x o e
    try dsimp only at e
    split at e
    · injection e with e; subst e; exact ht
    · cases e)⟩
theorem thin_rowS {e : TypeId} {size n : Nat} {v : Value} {xs : List Value} (ht : e ≠ 45) : Thin (rowS e size v n xs) := fun h p => by
  obtain ⟨hl, h0 | ⟨g, cap, cur, hv, hg, rest⟩⟩ := p
  · exact ⟨fun _ => none, fun x o e => (by cases e), ⟨hl, Or.inl h0⟩, fun x o e => by cases e⟩
  · refine ⟨fun x => if x = g then some (.cells cur e (0, 0)) else none, fun x o e1 => ?_, ⟨hl, Or.inr ⟨g, cap, cur, hv, by simp, rest⟩⟩, fun x o e1 => ?_⟩
    · dsimp only at e1
      split at e1
      · rename_i hx; subst hx; rw [← e1]; exact hg
      · cases e1
    · dsimp only at e1
      split at e1
      · injection e1 with e1; subst e1; exact ht
      · cases e1
theorem thin_star : ∀ {L : List SA}, (∀ P ∈ L, Thin P) → Thin (star L)
  | [], _ => fun h _ => ⟨fun _ => none, fun x o e => (by cases e), trivial, fun x o e => by cases e⟩
  | P :: L, hP => fun h ⟨h1, h2, p, q, d, l1, l2⟩ => by
    obtain ⟨k1, m1, p1, n1⟩ := hP P (by simp) h1 p
    obtain ⟨k2, m2, p2, n2⟩ := thin_star (fun Q hQ => hP Q (by simp [hQ])) h2 q
    have d' : k1.off k2 := fun b o o' e e' => d b o o' (m1 b o e) (m2 b o' e')
    exact ⟨Hp.un k1 k2, Hp.un_le (Hp.le_trans m1 l1) (Hp.le_trans m2 l2), ⟨k1, k2, p1, p2, d', Hp.le_un_left _ _, Hp.le_un_right d'⟩, fun b o e => (Hp.un_some e).elim (n1 b o) (n2 b o)⟩
theorem thin_deck (v : Value) (cs : List (List UInt8)) : Thin (deckS v cs) := fun h ⟨ps, e, s⟩ => by
  obtain ⟨k, l, s', n⟩ := thin_star (L := [rowS 31 1 v ps.length (ps.map Prod.fst), star (ps.map cardS)]) (by
    intro P hP
    simp only [List.mem_cons, List.not_mem_nil, or_false] at hP
    rcases hP with rfl | rfl
    · exact thin_rowS (by decide)
    · exact thin_star fun Q hQ => by
        obtain ⟨p, _, rfl⟩ := List.mem_map.1 hQ
        exact thin_rowS (by decide)) h s
  exact ⟨k, l, ⟨ps, e, s'⟩, n⟩
theorem thin_punch (pb se : Nat) (cs : List (List UInt8)) : Thin (punchS pb se cs) := fun h ⟨v, t, s⟩ => by
  obtain ⟨k, l, s', n⟩ := thin_star (L := [cel pb #[.int .i64 (se : Int), v] 85, deckS v cs]) (by
    intro P hP
    simp only [List.mem_cons, List.not_mem_nil, or_false] at hP
    rcases hP with rfl | rfl
    · exact thin_cel (by decide)
    · exact thin_deck _ _) h s
  exact ⟨k, l, ⟨v, t, s'⟩, n⟩

/-- The printer. -/
def prS (pb : Nat) (s : PS) : SA := fun h => ∃ A c, h pb = some (.cells #[.int .i64 (s.sense : Int), .slice A s.lines.length c, .int .i64 ((s.down / 60 + 1 : Nat) : Int), .int .i64 ((s.down % 60 + 1 : Nat) : Int)] 78 (0, 0)) ∧
  rowS 45 3 (.slice A s.lines.length c) s.lines.length (s.lines.flatMap lineCells) h
section
variable {W w w' : World} {F : List SA}
theorem prS_at {pb : Nat} {s : PS} (S : SL W (prS pb s :: F) w) : PrAt w W.heap.size pb s := by
  obtain ⟨_, h, ⟨h1, h2, ⟨A, c, hr, ho⟩, _, _, l1, _⟩, k⟩ := S
  have hk := k pb _ (l1 pb _ hr)
  refine ⟨hk.1, A, c, hk.2, ho.1, ?_⟩
  rcases ho.2 with h0 | ⟨g, cap, cur, hv, hg, rest⟩
  · exact Or.inl h0
  · exact Or.inr ⟨g, cap, cur, hv, (k g _ (l1 g _ hg)).1, (k g _ (l1 g _ hg)).2, rest⟩
/-- What the elder contracts say, said apart. -/
theorem prS_step {pb : Nat} {s s' : PS} (S : SL W (prS pb s :: F) w) (hF : ∀ P ∈ F, Thin P) (hp : PrAt w' W.heap.size pb s') (hf : Fr (PrT w W.heap.size pb) w w') : SL W (prS pb s' :: F) w' := by
  have hB := S.1
  obtain ⟨B, h, ⟨h1, h2, ⟨A, c, hr, ho⟩, q, d, l1, l2⟩, k⟩ := S
  obtain ⟨k2, m2, q2, n2⟩ := thin_star hF h2 q
  have d2 : h1.off k2 := fun b o o' e e' => d b o o' e (m2 b o' e')
  have hT : ∀ b, PrT w W.heap.size pb b → ∃ o, h1 b = some o := by
    rintro b (rfl | ⟨_, _, cs, t, fr, v, e1, e2, e3⟩)
    · exact ⟨_, hr⟩
    · have hk := (k pb _ (l1 pb _ hr)).2
      rw [hk] at e1
      injection e1 with e1
      injection e1 with e1 _ _
      subst e1
      have hv : v = .slice A s.lines.length c := by simpa using e2.symm
      subst hv
      rcases ho.2 with ⟨h0, _⟩ | ⟨g, cap, cur, hv, hg, _⟩
      · rw [h0] at e3; simp [Value.ownBlock] at e3
      · rw [hv] at e3; simp [Value.ownBlock] at e3
        subst e3; exact ⟨_, hg⟩
  have hk2 : ∀ b o, k2 b = some o → W.heap.size ≤ b ∧ w'.heap[b]? = some o ∧ w.heap[b]? = some o := fun b o e => by
    have hb := k b o (l2 b o (m2 b o e))
    exact ⟨hb.1, hf.row hb.2 fun t => by obtain ⟨o1, e1⟩ := hT b t; exact d2 b o1 o e1 e, hb.2⟩
  obtain ⟨hpb, A', c', hr', ho'⟩ := hp
  have hbel : Below W.heap.size W w' := B.trans (hf.to_below (fun b _ t => by
    obtain ⟨o, e⟩ := hT b t
    exact (k b o (l1 b o e)).1) B.size)
  have nopb : k2 pb = none := by
    cases e : k2 pb with
    | none => rfl
    | some o => exact (d2 pb _ o hr e).elim
  rcases ho'.2 with h0 | ⟨g, cap, cur, hv, hgB, hg, rest⟩
  · refine ⟨hbel, Hp.un (fun b => if b = pb then some (.cells #[.int .i64 (s'.sense : Int), .slice A' s'.lines.length c', .int .i64 ((s'.down / 60 + 1 : Nat) : Int), .int .i64 ((s'.down % 60 + 1 : Nat) : Int)] 78 (0, 0)) else none) k2, ⟨_, k2, ⟨A', c', if_pos rfl, ho'.1, Or.inl h0⟩, q2, ?_, Hp.le_un_left _ _, Hp.le_un_right ?_⟩, fun b o e => ?_⟩
    · intro b o o' e e'
      try dsimp only at e
      split at e
      · rename_i hb; subst hb; rw [nopb] at e'; cases e'
      · cases e
    · intro b o o' e e'
      try dsimp only at e
      split at e
      · rename_i hb; subst hb; rw [nopb] at e'; cases e'
      · cases e
    · rcases Hp.un_some e with e1 | e1
      · clear e
        try dsimp only at e1
        split at e1
        · rename_i hb; subst hb; injection e1 with e1; subst e1; exact ⟨hpb, hr'⟩
        · cases e1
      · exact ⟨(hk2 b o e1).1, (hk2 b o e1).2.1⟩
  · have nog : k2 g = none := by
      cases e : k2 g with
      | none => rfl
      | some o =>
        have h1 := (hk2 g o e).2.1
        rw [hg] at h1
        injection h1 with h1
        subst h1
        exact ((n2 g _ e) rfl).elim
    refine ⟨hbel, Hp.un (fun b => if b = pb then some (.cells #[.int .i64 (s'.sense : Int), .slice A' s'.lines.length c', .int .i64 ((s'.down / 60 + 1 : Nat) : Int), .int .i64 ((s'.down % 60 + 1 : Nat) : Int)] 78 (0, 0)) else if b = g then some (.cells cur 45 (0, 0)) else none) k2, ⟨_, k2, ⟨A', c', if_pos rfl, ho'.1, Or.inr ⟨g, cap, cur, hv, ?_, rest⟩⟩, q2, ?_, Hp.le_un_left _ _, Hp.le_un_right ?_⟩, fun b o e => ?_⟩
    · have hne : g ≠ pb := by
        rintro rfl
        rw [hr'] at hg
        injection hg with hg; injection hg with _ hg _
        revert hg; decide
      rw [if_neg hne, if_pos rfl]
    · intro b o o' e e'
      try dsimp only at e
      split at e
      · rename_i hb; subst hb; rw [nopb] at e'; cases e'
      · split at e
        · rename_i hb; subst hb; rw [nog] at e'; cases e'
        · cases e
    · intro b o o' e e'
      try dsimp only at e
      split at e
      · rename_i hb; subst hb; rw [nopb] at e'; cases e'
      · split at e
        · rename_i hb; subst hb; rw [nog] at e'; cases e'
        · cases e
    · rcases Hp.un_some e with e1 | e1
      · clear e
        try dsimp only at e1
        split at e1
        · rename_i hb; subst hb; injection e1 with e1; subst e1; exact ⟨hpb, hr'⟩
        · split at e1
          · rename_i hb; subst hb; injection e1 with e1; subst e1; exact ⟨hgB, hg⟩
          · cases e1
      · exact ⟨(hk2 b o e1).1, (hk2 b o e1).2.1⟩
end
end Go.Proofs.Ytgklbilkfmieoaa
