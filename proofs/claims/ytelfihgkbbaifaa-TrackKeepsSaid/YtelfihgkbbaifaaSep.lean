/- Assertions on memory that lie apart from each other (blocks that a call owns), in the manner of separation logic. No function of the program is named here. -/
import Derived.Test.YtelfihgkbbaifaaMem
import Derived.Maps.AppendAt
namespace Go.Proofs.Ytelfihgkbbaifaa
open Go.RowKit

abbrev Hp := Nat → Option Obj
abbrev SA := Hp → Prop
def Hp.le (h k : Hp) : Prop := ∀ b o, h b = some o → k b = some o
def Hp.off (h k : Hp) : Prop := ∀ b o o', h b = some o → k b = some o' → False
def Hp.un (h k : Hp) : Hp := fun b => match h b with | some o => some o | none => k b
theorem Hp.un_some {h k : Hp} {b : Nat} {o : Obj} (e : Hp.un h k b = some o) : h b = some o ∨ k b = some o := by
  unfold Hp.un at e; split at e
  · rename_i o' h'; injection e with e; subst e; exact Or.inl h'
  · exact Or.inr e
theorem Hp.le_un_left (h k : Hp) : h.le (Hp.un h k) := fun b o e => by simp [Hp.un, e]
theorem Hp.le_un_right {h k : Hp} (d : h.off k) : k.le (Hp.un h k) := fun b o e => by
  unfold Hp.un; split
  · rename_i o' h'; exact (d b o' o h' e).elim
  · exact e
theorem Hp.un_le {h k m : Hp} (a : h.le m) (b : k.le m) : (Hp.un h k).le m := fun x o e => (Hp.un_some e).elim (a x o) (b x o)
theorem Hp.off_symm {h k : Hp} (d : h.off k) : k.off h := fun b o o' e e' => d b o' o e' e
theorem Hp.off_un {h k m : Hp} (a : m.off h) (b : m.off k) : m.off (Hp.un h k) := fun x o o' e e' => (Hp.un_some e').elim (a x o o' e) (b x o o' e)
theorem Hp.off_le {h h' k : Hp} (d : h.off k) (l : h'.le h) : h'.off k := fun b o o' e e' => d b o o' (l b o e) e'
theorem Hp.le_refl (h : Hp) : h.le h := fun _ _ e => e
theorem Hp.le_trans {h k m : Hp} (a : h.le k) (b : k.le m) : h.le m := fun x o e => b x o (a x o e)

/-- All of the list hold, in memory apart from each other. -/
def star : List SA → SA
  | [] => fun _ => True
  | P :: r => fun h => ∃ h1 h2, P h1 ∧ star r h2 ∧ Hp.off h1 h2 ∧ Hp.le h1 h ∧ Hp.le h2 h
theorem star_le : ∀ {L : List SA} {h k : Hp}, h.le k → star L h → star L k
  | [], _, _, _, _ => trivial
  | _ :: _, _, _, l, ⟨h1, h2, p, q, d, l1, l2⟩ => ⟨h1, h2, p, q, d, Hp.le_trans l1 l, Hp.le_trans l2 l⟩
theorem star_cons {a : SA} {L M : List SA} (f : ∀ h, star L h → star M h) {h : Hp} : star (a :: L) h → star (a :: M) h
  | ⟨h1, h2, p, q, d, l1, l2⟩ => ⟨h1, h2, p, f _ q, d, l1, l2⟩
theorem star_head {a b : SA} {L : List SA} (f : ∀ h, a h → b h) {h : Hp} : star (a :: L) h → star (b :: L) h
  | ⟨h1, h2, p, q, d, l1, l2⟩ => ⟨h1, h2, f _ p, q, d, l1, l2⟩
theorem star_tail {a : SA} {L : List SA} {h : Hp} : star (a :: L) h → star L h
  | ⟨_, _, _, q, _, _, l2⟩ => star_le l2 q
theorem star_swap {a b : SA} {L : List SA} {h : Hp} : star (a :: b :: L) h → star (b :: a :: L) h := by
  rintro ⟨h1, h2, p, ⟨h3, h4, q, r, d', l3, l4⟩, d, l1, l2⟩
  have d14 : h1.off h4 := fun b o o' e e' => d b o o' e (l4 b o' e')
  have d31 : h3.off h1 := fun b o o' e e' => d b o' o e' (l3 b o e)
  exact ⟨h3, Hp.un h1 h4, q, ⟨h1, h4, p, r, d14, Hp.le_un_left _ _, Hp.le_un_right d14⟩, Hp.off_un d31 d', Hp.le_trans l3 l2, Hp.un_le l1 (Hp.le_trans l4 l2)⟩
theorem star_perm {L M : List SA} (p : L.Perm M) : ∀ h, star L h → star M h := by
  induction p with
  | nil => exact fun _ h => h
  | cons a _ ih => exact fun _ => star_cons ih
  | swap a b l => exact fun _ => star_swap
  | trans _ _ i j => exact fun h k => j h (i h k)
theorem star_append : ∀ {L M : List SA} {h : Hp}, star (L ++ M) h → star (star L :: M) h
  | [], M, h, s => ⟨fun _ => none, h, trivial, s, (by intro b o o' e; cases e), (by intro b o e; cases e), Hp.le_refl _⟩
  | a :: L, M, h, ⟨h1, h2, p, q, d, l1, l2⟩ => by
    obtain ⟨h3, h4, r, t, d', l3, l4⟩ := star_append q
    have d13 : h1.off h3 := fun b o o' e e' => d b o o' e (l3 b o' e')
    have d14 : h1.off h4 := fun b o o' e e' => d b o o' e (l4 b o' e')
    exact ⟨Hp.un h1 h3, h4, ⟨h1, h3, p, r, d13, Hp.le_un_left _ _, Hp.le_un_right d13⟩, t, fun b o o' e e' => (Hp.un_some e).elim (fun e => d14 b o o' e e') (fun e => d' b o o' e e'),
      Hp.un_le l1 (Hp.le_trans l3 l2), Hp.le_trans l4 l2⟩
theorem append_star : ∀ {L M : List SA} {h : Hp}, star (star L :: M) h → star (L ++ M) h
  | [], _, _, ⟨_, _, _, s, _, _, l⟩ => star_le l s
  | a :: L, M, h, ⟨h1, h2, ⟨h3, h4, p, q, d', l3, l4⟩, t, d, l1, l2⟩ => by
    have d42 : h4.off h2 := Hp.off_le d l4
    have d32 : h3.off h2 := Hp.off_le d l3
    exact ⟨h3, Hp.un h4 h2, p, append_star ⟨h4, h2, q, t, d42, Hp.le_un_left _ _, Hp.le_un_right d42⟩, Hp.off_un d' d32, Hp.le_trans l3 l1, Hp.un_le (Hp.le_trans l4 l1) l2⟩

/-- The world w is as W below W's size, and the assertions L hold of blocks that are new since W, each apart from the others. -/
def SL (W : World) (L : List SA) (w : World) : Prop := Below W.heap.size W w ∧ ∃ h, star L h ∧ ∀ b o, h b = some o → W.heap.size ≤ b ∧ w.heap[b]? = some o

def pts (b : Nat) (o : Obj) : SA := fun h => h b = some o
/-- A block of cells. -/
def cel (b : Nat) (cs : Array Value) (t : TypeId) : SA := pts b (.cells cs t (0, 0))
/-- A slice that is a row of the call's own (or nil, and empty). -/
def rowS (e : TypeId) (size : Nat) (v : Value) (n : Nat) (xs : List Value) : SA := fun h => xs.length = n * size ∧
  ((v = .slice none 0 0 ∧ n = 0) ∨ ∃ g cap cur, v = .slice (some ⟨g, 0, none⟩) n cap ∧ h g = some (.cells cur e (0, 0)) ∧ n ≤ cap ∧ cap ≤ maxLen ∧ cur.size = cap * size ∧ cur.toList.take (n * size) = xs)

section
variable {W w w' : World} {L M r : List SA} {a b c d e f g : SA}
theorem SL.below (S : SL W L w) : Below W.heap.size W w := S.1
theorem SL.size (S : SL W L w) : W.heap.size ≤ w.heap.size := S.1.size
theorem SL.start (W : World) : SL W [] W := ⟨Below.refl _ _, fun _ => none, trivial, by intro b o e; cases e⟩
theorem SL.imp (S : SL W L w) (f : ∀ h, star L h → star M h) : SL W M w := ⟨S.1, S.2.imp fun h k => ⟨f h k.1, k.2⟩⟩
theorem SL.perm (S : SL W L w) (p : L.Perm M) : SL W M w := S.imp (star_perm p)
theorem SL.drop (S : SL W (a :: r) w) : SL W r w := S.imp fun _ => star_tail
theorem SL.head (S : SL W (a :: r) w) (f : ∀ h, a h → b h) : SL W (b :: r) w := S.imp fun _ => star_head f
theorem SL.s1 (S : SL W (a :: b :: r) w) : SL W (b :: a :: r) w := S.imp fun _ => star_swap
theorem SL.s2 (S : SL W (a :: b :: c :: r) w) : SL W (c :: a :: b :: r) w := (S.imp fun _ => star_cons fun _ => star_swap).s1
theorem SL.s3 (S : SL W (a :: b :: c :: d :: r) w) : SL W (d :: a :: b :: c :: r) w := (S.imp fun _ => star_cons fun _ => star_cons fun _ => star_swap).s2
theorem SL.s4 (S : SL W (a :: b :: c :: d :: e :: r) w) : SL W (e :: a :: b :: c :: d :: r) w := (S.imp fun _ => star_cons fun _ => star_cons fun _ => star_cons fun _ => star_swap).s3
theorem SL.s5 (S : SL W (a :: b :: c :: d :: e :: f :: r) w) : SL W (f :: a :: b :: c :: d :: e :: r) w := (S.imp fun _ => star_cons fun _ => star_cons fun _ => star_cons fun _ => star_cons fun _ => star_swap).s4
theorem SL.s6 (S : SL W (a :: b :: c :: d :: e :: f :: g :: r) w) : SL W (g :: a :: b :: c :: d :: e :: f :: r) w := (S.imp fun _ => star_cons fun _ => star_cons fun _ => star_cons fun _ => star_cons fun _ => star_cons fun _ => star_swap).s5
/-- The head goes behind the next one, two, three, ... -/
theorem SL.b2 (S : SL W (a :: b :: c :: r) w) : SL W (b :: c :: a :: r) w := S.s2.s2
theorem SL.b3 (S : SL W (a :: b :: c :: d :: r) w) : SL W (b :: c :: d :: a :: r) w := S.s3.s3.s3
theorem SL.b4 (S : SL W (a :: b :: c :: d :: e :: r) w) : SL W (b :: c :: d :: e :: a :: r) w := S.s4.s4.s4.s4
theorem SL.app (S : SL W (L ++ r) w) : SL W (star L :: r) w := S.imp fun _ => star_append
theorem SL.spill (S : SL W (star L :: r) w) : SL W (L ++ r) w := S.imp fun _ => append_star
theorem SL.only (S : SL W (a :: r) w) : SL W [a] w := S.imp fun _ => star_cons (M := []) fun _ _ => trivial
theorem SL.dropMid (S : SL W (a :: (L ++ r)) w) : SL W (a :: r) w := S.imp fun _ => star_cons fun _ h => star_tail (star_append h)
theorem SL.unpack {α : Type} {P : SA} {φ : α → Prop} {K : α → List SA} (S : SL W (P :: r) w) (f : ∀ h, P h → ∃ x, φ x ∧ star (K x) h) : ∃ x, φ x ∧ SL W (K x ++ r) w := by
  obtain ⟨B, h, ⟨h1, h2, p, q, dd, l1, l2⟩, k⟩ := S
  obtain ⟨x, px, sx⟩ := f h1 p
  exact ⟨x, px, SL.spill ⟨B, h, ⟨h1, h2, sx, q, dd, l1, l2⟩, k⟩⟩
theorem SL.pack {P : SA} (S : SL W (L ++ r) w) (f : ∀ h, star L h → P h) : SL W (P :: r) w := S.app.head f
theorem SL.pure {P : SA} {φ : Prop} (S : SL W (P :: r) w) (f : ∀ h, P h → φ) : φ := by
  obtain ⟨_, h, ⟨h1, h2, p, _⟩, _⟩ := S
  exact f h1 p
/-- Steps of the world. -/
theorem SL.cast (e : w' = w) (S : SL W L w) : SL W L w' := e ▸ S
theorem SL.same (S : SL W L w) (hb : Below W.heap.size W w') (k : ∀ x o, W.heap.size ≤ x → w.heap[x]? = some o → w'.heap[x]? = some o) : SL W L w' := by
  obtain ⟨B, h, s, l⟩ := S
  exact ⟨hb, h, s, fun x o e => ⟨(l x o e).1, k x o (l x o e).1 (l x o e).2⟩⟩
theorem SL.drew (S : SL W L w) : SL W L w.drew := S.same S.1.drew fun _ _ _ e => e
theorem SL.drewN (S : SL W L w) (n : Nat) : SL W L (w.drewN n) := S.same (below_drewN S.1 n) fun _ _ _ e => e
theorem SL.still (S : SL W L w) (h : Still w w') : SL W L w' := by obtain ⟨n, rfl⟩ := h; exact S.drewN n
theorem SL.grow (S : SL W L w) (h : Below w.heap.size w w') : SL W L w' := S.same (S.1.trans (h.mono S.1.size)) fun _ _ _ e => hl_grow h e
theorem SL.join (S : SL W L w) (T : SL w M w') : SL W (M ++ L) w' := by
  obtain ⟨B, h, s, l⟩ := S
  obtain ⟨B', h', s', l'⟩ := T
  refine ⟨B.trans (B'.mono B.size), Hp.un h' h, append_star ⟨h', h, s', s, ?_, Hp.le_un_left _ _, Hp.le_un_right ?_⟩, fun x o e => ?_⟩
  · intro x o o' e e'
    have h1 := (l' x o e).1
    have h2 := hl_lt (l x o' e').2
    omega
  · intro x o o' e e'
    have h1 := (l' x o e).1
    have h2 := hl_lt (l x o' e').2
    omega
  · rcases Hp.un_some e with e | e
    · exact ⟨Nat.le_trans B.size (l' x o e).1, (l' x o e).2⟩
    · exact ⟨(l x o e).1, hl_grow B' (l x o e).2⟩
theorem SL.alloc (S : SL W L w) (o : Obj) : SL W (pts w.heap.size o :: L) (w.alloc o) :=
  S.join (M := [pts w.heap.size o]) ⟨(Below.refl _ _).alloc (Nat.le_refl _) o, fun x => if x = w.heap.size then some o else none,
    ⟨fun x => if x = w.heap.size then some o else none, fun _ => none, by simp [pts], trivial, (by intro b o o' _ e; cases e), Hp.le_refl _, (by intro b o e; cases e)⟩,
    fun x o' e => by
      dsimp only at e
      split at e
      · rename_i hx; injection e with e; subst e; subst hx; exact ⟨Nat.le_refl _, hl_new rfl⟩
      · cases e⟩
theorem SL.allocC (S : SL W L w) (cs : Array Value) (t : TypeId) : SL W (cel w.heap.size cs t :: L) (w.alloc (.cells cs t)) := S.alloc _
theorem SL.row {x : Nat} {o : Obj} (S : SL W (pts x o :: r) w) : w.heap[x]? = some o := by
  obtain ⟨_, h, ⟨h1, h2, p, _, _, l1, _⟩, k⟩ := S
  exact (k _ _ (l1 _ _ p)).2
theorem SL.ge {x : Nat} {o : Obj} (S : SL W (pts x o :: r) w) : W.heap.size ≤ x := by
  obtain ⟨_, h, ⟨h1, h2, p, _, _, l1, _⟩, k⟩ := S
  exact (k _ _ (l1 _ _ p)).1
theorem SL.crow {x : Nat} {cs : Array Value} {t : TypeId} (S : SL W (cel x cs t :: r) w) : w.heap[x]? = some (.cells cs t (0, 0)) := SL.row S
theorem SL.cge {x : Nat} {cs : Array Value} {t : TypeId} (S : SL W (cel x cs t :: r) w) : W.heap.size ≤ x := SL.ge S
theorem SL.look {x : Nat} {cs : Array Value} {t : TypeId} (S : SL W (cel x cs t :: r) w) : (∀ o, w.cell? ⟨x, o, none⟩ = cs[o]?) ∧ (∀ o, w.frozen? ⟨x, o, none⟩ = false) ∧ x < w.heap.size := row_look S.crow
theorem SL.ne {x y : Nat} {o o' : Obj} (S : SL W (pts x o :: pts y o' :: r) w) : x ≠ y := by
  obtain ⟨_, h, ⟨h1, h2, p, ⟨h3, h4, q, _, _, l3, _⟩, dd, l1, _⟩, k⟩ := S
  rintro rfl
  exact dd x o o' p (l3 x o' q)
theorem SL.cne {x y : Nat} {cs cs' : Array Value} {t t' : TypeId} (S : SL W (cel x cs t :: cel y cs' t' :: r) w) : x ≠ y := SL.ne S
/-- Only the block x turns. -/
theorem SL.turn {x : Nat} {o o' : Obj} (S : SL W (pts x o :: r) w) (h1 : w'.heap[x]? = some o') (hf : Fr (fun b => b = x) w w') : SL W (pts x o' :: r) w' := by
  have hx := S.ge
  obtain ⟨B, h, ⟨h1', h2, p, q, dd, l1, l2⟩, k⟩ := S
  have hk : ∀ b o, h2 b = some o → b ≠ x := by rintro b o e rfl; exact dd _ _ _ p e
  refine ⟨B.trans (hf.to_below (fun b _ e => e ▸ hx) B.size), fun b => if b = x then some o' else h2 b, ⟨fun b => if b = x then some o' else none, h2, by simp [pts], q, ?_, ?_, ?_⟩, ?_⟩
  · intro b o1 o2 e e2
    dsimp only at e
    split at e
    · rename_i hb; exact hk b o2 e2 hb
    · cases e
  · intro b o1 e
    dsimp only at e
    split at e
    · rename_i hb; dsimp only; rw [if_pos hb]; exact e
    · cases e
  · intro b o1 e
    dsimp only; rw [if_neg (hk b o1 e)]; exact e
  · intro b o1 e
    dsimp only at e
    split at e
    · rename_i hb; subst hb; injection e with e; subst e; exact ⟨hx, h1⟩
    · rename_i hb
      have := k b o1 (l2 b o1 e)
      exact ⟨this.1, hf.row this.2 hb⟩
theorem SL.set {x off : Nat} {cs cs' : Array Value} {t : TypeId} {v : Value} (S : SL W (cel x cs t :: r) w) (he : cs.setIfInBounds off v = cs') : SL W (cel x cs' t :: r) (w.setCell ⟨x, off, none⟩ v) :=
  SL.turn S (hl_set he S.crow) ((Fr.refl (fun b => b = x) _).setCell (fun _ => rfl) _)
theorem SL.set3 {x : Nat} {v0 v1 v2 u0 u1 u2 : Value} {t : TypeId} (S : SL W (cel x #[v0, v1, v2] t :: r) w) : SL W (cel x #[u0, u1, u2] t :: r) (((w.setCell ⟨x, 0, none⟩ u0).setCell ⟨x, 1, none⟩ u1).setCell ⟨x, 2, none⟩ u2) :=
  ((S.set (cs' := #[u0, v1, v2]) rfl).set (cs' := #[u0, u1, v2]) rfl).set (cs' := #[u0, u1, u2]) rfl
theorem SL.setRow {x : Nat} {cs cs' : Array Value} {t : TypeId} (S : SL W (cel x cs t :: r) w) : SL W (cel x cs' t :: r) (w.setRow x cs') :=
  SL.turn S (hl_row S.crow) ((Fr.refl (fun b => b = x) _).setRow (fun _ => rfl) _)
/-- What only the blocks of P may have turned leaves the rest (for contracts of another kind). -/
theorem SL.frame {P Q : SA} {T : Nat → Prop} (S : SL W (P :: r) w) (hT : ∀ h, P h → (∀ b o, h b = some o → w.heap[b]? = some o) → ∀ b, b < w.heap.size → T b → ∃ o, h b = some o) (hf : Fr T w w')
    (hQ : (∀ h, P h → (∀ b o, h b = some o → w.heap[b]? = some o) → ∃ k, Q k ∧ ∀ b o, k b = some o → w'.heap[b]? = some o ∧ ((∃ o', h b = some o') ∨ w.heap.size ≤ b))) : SL W (Q :: r) w' := by
  obtain ⟨B, h, ⟨h1, h2, p, q, dd, l1, l2⟩, k⟩ := S
  have hp := hT h1 p fun b o e => (k b o (l1 b o e)).2
  obtain ⟨k1, qk, hk⟩ := hQ h1 p fun b o e => (k b o (l1 b o e)).2
  have off : k1.off h2 := fun b o o' e e' => by
    rcases (hk b o e).2 with ⟨o1, e1⟩ | hz
    · exact dd b o1 o' e1 e'
    · have := hl_lt (k b o' (l2 b o' e')).2; omega
  refine ⟨B.trans (hf.to_below (fun b hb e => ?_) B.size), Hp.un k1 h2, ⟨k1, h2, qk, q, off, Hp.le_un_left _ _, Hp.le_un_right off⟩, fun b o e => ?_⟩
  · obtain ⟨o, e1⟩ := hp b hb e
    exact (k b o (l1 b o e1)).1
  · rcases Hp.un_some e with e | e
    · refine ⟨?_, (hk b o e).1⟩
      rcases (hk b o e).2 with ⟨o1, e1⟩ | hz
      · exact (k b o1 (l1 b o1 e1)).1
      · exact Nat.le_trans B.size hz
    · have hb := k b o (l2 b o e)
      refine ⟨hb.1, hf.row hb.2 fun t => ?_⟩
      obtain ⟨o1, e1⟩ := hp b (hl_lt hb.2) t
      exact dd b o1 o e1 e
/-- Rows. -/
theorem SL.own {e : TypeId} {size n : Nat} {v : Value} {xs : List Value} (S : SL W (rowS e size v n xs :: r) w) : w.ownsRow W.heap.size e size v n xs := by
  obtain ⟨_, h, ⟨h1, h2, p, _, _, l1, _⟩, k⟩ := S
  refine ⟨p.1, ?_⟩
  rcases p.2 with p | ⟨x, cap, cur, hv, hx, rest⟩
  · exact Or.inl p
  · exact Or.inr ⟨x, cap, cur, hv, (k _ _ (l1 _ _ hx)).1, (k _ _ (l1 _ _ hx)).2, rest⟩
theorem SL.at_ {e : TypeId} {size n k : Nat} {A : Option Addr} {xs : List Value} (S : SL W (rowS e size (.slice A n k) n xs :: r) w) : At w w.heap.size A xs := own_at3 S.own
theorem SL.nil (S : SL W r w) (e : TypeId) (size : Nat) : SL W (rowS e size (.slice none 0 0) 0 [] :: r) w := by
  obtain ⟨B, h, s, k⟩ := S
  exact ⟨B, h, ⟨fun _ => none, h, ⟨by simp, Or.inl ⟨rfl, rfl⟩⟩, s, (by intro b o o' e; cases e), (by intro b o e; cases e), Hp.le_refl _⟩, k⟩
theorem rowS_pts {e : TypeId} {size cap n x : Nat} {cur : Array Value} {xs : List Value} (hn : n ≤ cap) (hm : cap ≤ maxLen) (hs : cur.size = cap * size) (ht : cur.toList.take (n * size) = xs) : ∀ h, pts x (.cells cur e (0, 0)) h → rowS e size (.slice (some ⟨x, 0, none⟩) n cap) n xs h := fun h p =>
  ⟨by subst ht; rw [List.length_take, Array.length_toList, hs, Nat.min_eq_left (Nat.mul_le_mul_right _ hn)], Or.inr ⟨x, cap, cur, rfl, p, hn, hm, hs, ht⟩⟩
/-- The row that was at the head has given way to another, which lies in the same block or in a new one. -/
theorem SL.regrown {e : TypeId} {size n n' : Nat} {v v' : Value} {xs xs' : List Value} (S : SL W (rowS e size v n xs :: r) w) (hg : w.grownBy w' v.ownBlock) (ho : w'.ownsRow W.heap.size e size v' n' xs')
    (hat : v'.ownBlock = v.ownBlock ∨ v'.ownBlock = some w.heap.size) : SL W (rowS e size v' n' xs' :: r) w' := by
  refine SL.frame (T := fun b => v.ownBlock = some b) S ?_ ((Fr.refl _ _).grown hg fun g hg _ => hg) ?_
  · intro h p _ b _ hv
    rcases p.2 with ⟨rfl, _⟩ | ⟨x, cap, cur, rfl, hx, _⟩
    · simp [Value.ownBlock] at hv
    · simp [Value.ownBlock] at hv; subst hv; exact ⟨_, hx⟩
  · intro h p _
    rcases ho.2 with hn | ⟨x, cap, cur, rfl, hx, hh, rest⟩
    · exact ⟨fun _ => none, ⟨ho.1, Or.inl hn⟩, by intro b o e; cases e⟩
    · refine ⟨fun b => if b = x then some (.cells cur e (0, 0)) else none, ⟨ho.1, Or.inr ⟨x, cap, cur, rfl, by simp, rest⟩⟩, fun b o e => ?_⟩
      dsimp only at e
      split at e
      · rename_i hb; subst hb; injection e with e; subst e
        refine ⟨hh, ?_⟩
        rcases hat with hat | hat
        · left
          rcases p.2 with ⟨rfl, _⟩ | ⟨y, cap, cur, rfl, hy, _⟩
          · simp [Value.ownBlock] at hat
          · simp [Value.ownBlock] at hat; subst hat; exact ⟨_, hy⟩
        · right; simp [Value.ownBlock] at hat; omega
      · cases e
/-- A row that is new. -/
theorem SL.made {e : TypeId} {size n : Nat} {v : Value} {xs : List Value} (S : SL W r w) (ho : w'.ownsRow w.heap.size e size v n xs) (hb : Below w.heap.size w w') : SL W (rowS e size v n xs :: r) w' := by
  refine S.join (M := [rowS e size v n xs]) ⟨hb, ?_⟩
  rcases ho.2 with hn | ⟨x, cap, cur, rfl, hx, hh, rest⟩
  · exact ⟨fun _ => none, ⟨fun _ => none, fun _ => none, ⟨ho.1, Or.inl hn⟩, trivial, (by intro b o o' e; cases e), (by intro b o e; cases e), (by intro b o e; cases e)⟩, by intro b o e; cases e⟩
  · refine ⟨fun b => if b = x then some (.cells cur e (0, 0)) else none, ⟨_, fun _ => none, ⟨ho.1, Or.inr ⟨x, cap, cur, rfl, by simp, rest⟩⟩, trivial, (by intro b o o' _ e; cases e), Hp.le_refl _, (by intro b o e; cases e)⟩, fun b o e => ?_⟩
    dsimp only at e
    split at e
    · rename_i hb; subst hb; injection e with e; subst e; exact ⟨hx, hh⟩
    · cases e
theorem SL.lit (S : SL W r w) (cs : Array Value) (t : TypeId) (size n : Nat) (hs : cs.size = n * size) (hm : n ≤ maxLen) : SL W (rowS t size (.slice (some ⟨w.heap.size, 0, none⟩) n n) n cs.toList :: r) (w.alloc (.cells cs t)) :=
  (S.alloc (.cells cs t)).head (rowS_pts (Nat.le_refl _) hm hs (List.take_of_length_le (by simp [hs])))
/-- A row is a block known whole. -/
theorem SL.rowCel {e : TypeId} {size n : Nat} {v : Value} {xs : List Value} (S : SL W (rowS e size v n xs :: r) w) (hn : 0 < n) : ∃ x cap cur, v = .slice (some ⟨x, 0, none⟩) n cap ∧ n ≤ cap ∧ cap ≤ maxLen ∧ cur.size = cap * size ∧ cur.toList.take (n * size) = xs ∧ SL W (cel x cur e :: r) w := by
  obtain ⟨B, h, ⟨h1, h2, p, q, dd, l1, l2⟩, k⟩ := S
  rcases p.2 with ⟨_, h0⟩ | ⟨x, cap, cur, hv, hx, a1, a2, a3, a4⟩
  · omega
  · exact ⟨x, cap, cur, hv, a1, a2, a3, a4, B, h, ⟨h1, h2, hx, q, dd, l1, l2⟩, k⟩
/-- Lists of like assertions. -/
theorem perm_erase {α : Type} : ∀ (l : List α) (i : Nat) (x : α), l[i]? = some x → l.Perm (x :: l.eraseIdx i)
  | [], i, x, h => by simp at h
  | y :: l, 0, x, h => by simp at h; subst h; exact List.Perm.refl _
  | y :: l, i + 1, x, h => ((perm_erase l i x (by simpa using h)).cons y).trans (List.Perm.swap x y _)
theorem set_eraseIdx {α : Type} : ∀ (l : List α) (i : Nat) (x : α), (l.set i x).eraseIdx i = l.eraseIdx i
  | [], i, x => by simp
  | y :: l, 0, x => by simp
  | y :: l, i + 1, x => by simp [set_eraseIdx l i x]
theorem SL.take {i : Nat} {P : SA} (S : SL W (star L :: r) w) (h : L[i]? = some P) : SL W (P :: star (L.eraseIdx i) :: r) w :=
  (S.spill.perm ((perm_erase L i P h).append_right r)).imp fun _ s => star_cons (fun _ => star_append) s
theorem SL.put {i : Nat} {P : SA} (S : SL W (P :: star (L.eraseIdx i) :: r) w) (h : i < L.length) : SL W (star (L.set i P) :: r) w := by
  have p := perm_erase (L.set i P) i P (by simp [h])
  rw [set_eraseIdx] at p
  exact (S.imp (M := P :: (L.eraseIdx i ++ r)) fun _ => star_cons fun _ => append_star).perm (p.symm.append_right r) |>.app
theorem SL.snoc {P : SA} (S : SL W (P :: star L :: r) w) : SL W (star (L ++ [P]) :: r) w :=
  ((S.imp (M := P :: (L ++ r)) fun _ => star_cons fun _ => append_star).perm (M := (L ++ [P]) ++ r) (by rw [List.append_assoc]; exact (List.perm_middle (l₁ := L)).symm)).app
theorem SL.unsnoc {P : SA} (S : SL W (star (L ++ [P]) :: r) w) : SL W (P :: star L :: r) w :=
  ((S.spill.perm (M := P :: (L ++ r)) (by rw [List.append_assoc]; exact List.perm_middle (l₁ := L)))).imp fun _ => star_cons fun _ => star_append
theorem SL.empty (S : SL W r w) : SL W (star [] :: r) w := S.app (L := [])
end
/-- What can be read in every world of the assertions F. -/
def Rd (W : World) (F : List SA) (A : Option Addr) (xs : List Value) : Prop := ∀ w, SL W F w → At w w.heap.size A xs
theorem Rd.base {W : World} {F : List SA} {A : Option Addr} {xs : List Value} (h : At W W.heap.size A xs) : Rd W F A xs := fun _ S => (h.below S.1).mono S.1.size
theorem Rd.cons {W : World} {F : List SA} {A : Option Addr} {xs : List Value} {P : SA} (h : Rd W F A xs) : Rd W (P :: F) A xs := fun w S => h w S.drop
theorem Rd.head {W : World} {F : List SA} {A : Option Addr} {xs : List Value} {e : TypeId} {size n k : Nat} : Rd W (rowS e size (.slice A n k) n xs :: F) A xs := fun _ S => S.at_
theorem Rd.nil_ {W : World} {F : List SA} {A : Option Addr} : Rd W F A [] := fun _ _ => At.nil_
end Go.Proofs.Ytelfihgkbbaifaa
