/- What the laws on printers share. -/
import Derived.Test.YtgklbilkfmieoaaWorks
import Derived.Test.YtgklbilkfmieoaaLight
import Derived.Test.YtgklbilkfmieoaaQrDo
namespace Go.Proofs.Ytgklbilkfmieoaa
open Go.RowKit

theorem PrAt.mono {w : World} {B B' pb : Nat} {s : PS} (h : PrAt w B pb s) (hb : B' ≤ B) : PrAt w B' pb s := by
  obtain ⟨h0, A, c, hr, ho⟩ := h
  exact ⟨by omega, A, c, hr, own_mono ho hb⟩
theorem QrAt.mono {w : World} {B B' pb : Nat} {s : PS} (h : QrAt w B pb s) (hb : B' ≤ B) : QrAt w B' pb s := by
  obtain ⟨h0, A, c, hr, ho⟩ := h
  exact ⟨by omega, A, c, hr, own_mono ho hb⟩
/-- The types of what the program's printer may turn. -/
theorem PrT.type {w : World} {B B' pb : Nat} {s : PS} (h : PrAt w B pb s) : ∀ b, b < w.heap.size → PrT w B' pb b → ∀ cs t fr, w.heap[b]? = some (.cells cs t fr) → t = 78 ∨ t = 45 := by
  rintro b _ (rfl | ⟨_, ⟨cs, fr, hh⟩, _⟩) cs' t fr' h'
  · obtain ⟨_, A, c, hr, _⟩ := h
    rw [hr] at h'
    injection h' with h'
    injection h' with _ e2 _
    exact Or.inl e2.symm
  · rw [hh] at h'
    injection h' with h'
    injection h' with _ e2 _
    exact Or.inr e2.symm
theorem QrT.type {w : World} {B B' pb : Nat} {s : PS} (h : QrAt w B pb s) : ∀ b, b < w.heap.size → QrT w B' pb b → ∀ cs t fr, w.heap[b]? = some (.cells cs t fr) → t = 30 ∨ t = 46 := by
  rintro b _ (rfl | ⟨_, cs, fr, hh⟩) cs' t fr' h'
  · obtain ⟨_, A, c, hr, _⟩ := h
    rw [hr] at h'
    injection h' with h'
    injection h' with _ e2 _
    exact Or.inl e2.symm
  · rw [hh] at h'
    injection h' with h'
    injection h' with _ e2 _
    exact Or.inr e2.symm
theorem QrAt.beside {w w' : World} {B B' B'' pb qb : Nat} {s s' : PS} (hq : QrAt w B qb s') (hp : PrAt w B' pb s) (hf : Fr (PrT w B'' pb) w w') : QrAt w' B qb s' :=
  hq.fr hf (fun b hb ht cs t fr h => by rcases PrT.type hp b hb ht cs t fr h with rfl | rfl <;> exact ⟨by decide, by decide⟩)
theorem PrAt.beside {w w' : World} {B B' B'' pb qb : Nat} {s s' : PS} (hp : PrAt w B pb s) (hq : QrAt w B' qb s') (hf : Fr (QrT w B'' qb) w w') : PrAt w' B pb s :=
  hp.fr hf (fun b hb ht cs t fr h => by rcases QrT.type hq b hb ht cs t fr h with rfl | rfl <;> exact ⟨by decide, by decide⟩)
theorem QrAt.beside1 {w w' : World} {B B' pb qb : Nat} {s s' : PS} (hq : QrAt w B qb s') (hp : PrAt w B' pb s) (hf : Fr (fun b => b = pb) w w') : QrAt w' B qb s' :=
  hq.beside (B'' := 0) hp ⟨hf.os, hf.tape, hf.output, hf.size, fun b hb hn => hf.block b hb (fun e => hn (Or.inl e))⟩
theorem PrAt.beside1 {w w' : World} {B B' pb qb : Nat} {s s' : PS} (hp : PrAt w B pb s) (hq : QrAt w B' qb s') (hf : Fr (fun b => b = qb) w w') : PrAt w' B pb s :=
  hp.beside (B'' := 0) hq ⟨hf.os, hf.tape, hf.output, hf.size, fun b hb hn => hf.block b hb (fun e => hn (Or.inl e))⟩
theorem SpT.type {w : World} {vs : List Value} (hv : ∀ v ∈ vs, Wr w v) : ∀ b, SpT vs b → ∀ cs t fr, w.heap[b]? = some (.cells cs t fr) → t = 5 := by
  rintro b ⟨v, hm, hb⟩ cs t fr h
  obtain ⟨cs', fr', h'⟩ := (hv v hm).ty b hb
  rw [h] at h'
  injection h' with h'
  injection h' with _ e2 _
theorem PrAt.spoilt {w w' : World} {B pb : Nat} {s : PS} {vs : List Value} (hp : PrAt w B pb s) (hv : ∀ v ∈ vs, Wr w v) (hf : Fr (SpT vs) w w') : PrAt w' B pb s :=
  hp.fr hf (fun b _ ht cs t fr h => by obtain rfl := SpT.type hv b ht cs t fr h; exact ⟨by decide, by decide⟩)
theorem QrAt.spoilt {w w' : World} {B pb : Nat} {s : PS} {vs : List Value} (hp : QrAt w B pb s) (hv : ∀ v ∈ vs, Wr w v) (hf : Fr (SpT vs) w w') : QrAt w' B pb s :=
  hp.fr hf (fun b _ ht cs t fr h => by obtain rfl := SpT.type hv b ht cs t fr h; exact ⟨by decide, by decide⟩)

theorem own_type {w : World} {base : Nat} {e : TypeId} {size n : Nat} {v : Value} {xs : List Value} (h : w.ownsRow base e size v n xs) : ∀ g, v.ownBlock = some g → ∃ cs fr, w.heap[g]? = some (.cells cs e fr) := by
  intro g hg
  rcases h.2 with ⟨rfl, _⟩ | ⟨g', cap, cur, rfl, _, hh, _⟩
  · simp [Value.ownBlock] at hg
  · have : g' = g := by simpa [Value.ownBlock] using hg
    subst this
    exact ⟨_, _, hh⟩
/-- Bytes of one's own beside the printers. -/
theorem own_pr {w w' : World} {base B B' n pb : Nat} {s : PS} {v : Value} {xs : List Value} (ho : w.ownsRow base 5 1 v n xs) (hp : PrAt w B pb s) (hf : Fr (PrT w B' pb) w w') : w'.ownsRow base 5 1 v n xs :=
  hf.own ho (fun g hg ht => by
    obtain ⟨cs, fr, h⟩ := own_type ho g hg
    rcases PrT.type hp g (hl_lt h) ht _ _ _ h with e | e <;> revert e <;> decide)
theorem own_qr {w w' : World} {base B B' n pb : Nat} {s : PS} {v : Value} {xs : List Value} (ho : w.ownsRow base 5 1 v n xs) (hp : QrAt w B pb s) (hf : Fr (QrT w B' pb) w w') : w'.ownsRow base 5 1 v n xs :=
  hf.own ho (fun g hg ht => by
    obtain ⟨cs, fr, h⟩ := own_type ho g hg
    rcases QrT.type hp g (hl_lt h) ht _ _ _ h with e | e <;> revert e <;> decide)
theorem QrT.ge {w : World} {B pb : Nat} (h : B ≤ pb) : ∀ b, QrT w B pb b → B ≤ b := by
  rintro b (rfl | ⟨h1, _⟩)
  · exact h
  · exact h1
/-- Of two frames, one after the other. -/
theorem QrT.then_back {w w1 : World} {B qb : Nat} (hf : Fr (QrT w B qb) w w1) : ∀ b, b < w.heap.size → QrT w1 B qb b → QrT w B qb b := by
  intro b hb h
  by_cases hn : QrT w B qb b
  · exact hn
  · rcases h with h | ⟨h1, cs, fr, h⟩
    · exact Or.inl h
    · exact Or.inr ⟨h1, cs, fr, (hf.block b hb hn).symm.trans h⟩
theorem lines_get (l : List (Nat × Nat × List UInt8)) (k i : Nat) (hk : k < l.length) (hi : i < 3) : (l.flatMap lineCells)[k * 3 + i]? = (lineCells l[k])[i]? := by
  induction l generalizing k with
  | nil => simp at hk
  | cons x l ih =>
    rw [List.flatMap_cons]
    cases k with
    | zero => rw [Nat.zero_mul, Nat.zero_add, List.getElem?_append_left (by simpa [lineCells] using hi)]; rfl
    | succ k => rw [List.getElem?_append_right (by simp [lineCells]; omega), show (k + 1) * 3 + i - (lineCells x).length = k * 3 + i by simp [lineCells]; omega, ih k (by simpa using hk)]; rfl
/-- The cells of a line. -/
theorem line_cell {w : World} {B : Nat} {t : TypeId} {A : Option Addr} {c : Nat} {l : List (Nat × Nat × List UInt8)} (h : w.ownsRow B t 3 (.slice A l.length c) l.length (l.flatMap lineCells)) {k : Nat} (hk : k < l.length) :
    ∃ g, A = some ⟨g, 0, none⟩ ∧ w.cell? ⟨g, k * 3, none⟩ = some (.int .i64 (l[k].1 : Int)) ∧ w.cell? ⟨g, k * 3 + 1, none⟩ = some (.int .i64 (l[k].2.1 : Int)) ∧ w.cell? ⟨g, k * 3 + 2, none⟩ = some (.string ⟨l[k].2.2.toArray⟩) := by
  obtain ⟨g, rfl, _, _⟩ := own_head h (by omega)
  refine ⟨g, rfl, ?_, ?_, ?_⟩
  · rw [h.cellAt _ (by omega)]; have := lines_get l k 0 hk (by omega); rw [Nat.add_zero] at this; rw [this]; rfl
  · rw [h.cellAt _ (by omega), lines_get l k 1 hk (by omega)]; rfl
  · rw [h.cellAt _ (by omega), lines_get l k 2 hk (by omega)]; rfl
/-- The state after k acts. -/
def PS.fit (k : Nat) (s : PS) : Prop := s.lines.length ≤ 8192 ∧ s.sense < 256 ∧ s.down ≤ 60 * k
theorem PS.fit.good {k : Nat} {s : PS} (h : s.fit k) (hk : k ≤ 1000000) : s.good := ⟨h.1, h.2.1, by have := h.2.2; omega⟩
theorem prMove_le (d n : Nat) (hn : n ≤ 4) : prMove d n ≤ d + 60 := by unfold prMove; split <;> omega
theorem prOwn_fit {k : Nat} {s : PS} (h : s.fit k) (op : Int) (l : List UInt8) : (prOwn s op l).1.fit (k + 1) := by
  obtain ⟨h1, h2, h3⟩ := h
  have hs : s.fit (k + 1) := ⟨h1, h2, by omega⟩
  unfold prOwn
  split
  · exact hs
  · split
    · exact hs
    · rename_i n hm
      split
      · exact hs
      · split
        · exact hs
        · refine ⟨by simp [PS.move, PS.write]; omega, h2, ?_⟩
          have := prMove_le s.down n (prMoves_le _ _ _ hm)
          simp [PS.move, PS.write]; omega
    · rename_i n hm
      refine ⟨h1, h2, ?_⟩
      have := prMove_le s.down n (prMoves_le _ _ _ hm)
      simp [PS.move]; omega
theorem prDo_fit {k : Nat} {s : PS} (h : s.fit k) (op : Int) (l : List UInt8) : (prDo s op l).1.fit (k + 1) := by
  have hs : s.fit (k + 1) := ⟨h.1, h.2.1, by have := h.2.2; omega⟩
  unfold prDo
  split
  · exact hs
  · split
    · exact hs
    · obtain ⟨h1, h2, h3⟩ := prOwn_fit h op l
      refine ⟨h1, ?_, h3⟩
      rcases prOwn_sn s op l with e | e | e <;> simp [PS.feel, e] <;> omega
theorem fit_calm {k : Nat} {s : PS} (h : s.fit k) : ({ s with sense := 0 } : PS).fit (k + 1) := ⟨h.1, by simp, by have := h.2.2; simp; omega⟩
end Go.Proofs.Ytgklbilkfmieoaa
