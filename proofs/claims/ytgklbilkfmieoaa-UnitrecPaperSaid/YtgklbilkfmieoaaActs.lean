/- Slices of slices and slices of structs among the arguments: opened for the walks. -/
import Derived.Test.YtgklbilkfmieoaaFrame
import Derived.Test.YtgklbilkfmieoaaMem
import Derived.Deep.Fields
import Derived.Deep.Slices
namespace Go.Proofs.Ytgklbilkfmieoaa
open Go.ChangeShapes Go.WideShapes Go.ChangeAt Go.RowKit Go.Deep

/-- A slice of bytes as a value: where it lies, its bytes, its capacity. -/
abbrev CardV := Option Addr × List UInt8 × Nat
def cardV (x : CardV) : Value := .slice x.1 x.2.1.length x.2.2
def CardV.good (w : World) (B : Nat) (x : CardV) : Prop := At w B x.1 (Lib.byteCells x.2.1) ∧ x.2.1.length ≤ x.2.2 ∧ x.2.2 ≤ maxLen
theorem CardV.good.below {w w' : World} {B : Nat} {x : CardV} (h : CardV.good w B x) (hb : Below B w w') : CardV.good w' B x := ⟨h.1.below hb, h.2⟩

structure ActV where
  kind : UInt8
  op : Int
  data : CardV
  C : Option Addr
  cards : List CardV
  cc : Nat
def actCells (a : ActV) : List Value := [.int .u8 (a.kind.toNat : Int), .int .i64 a.op, cardV a.data, .slice a.C a.cards.length a.cc]
def ActV.good (w : World) (B : Nat) (a : ActV) : Prop := CardV.good w B a.data ∧ At w B a.C (a.cards.map cardV) ∧ a.cards.length ≤ a.cc ∧ a.cc ≤ maxLen ∧ ∀ x ∈ a.cards, CardV.good w B x
theorem ActV.good.below {w w' : World} {B : Nat} {a : ActV} (h : ActV.good w B a) (hb : Below B w w') : ActV.good w' B a := ⟨h.1.below hb, h.2.1.below hb, h.2.2.1, h.2.2.2.1, fun x hx => (h.2.2.2.2 x hx).below hb⟩
instance : Inhabited ActV := ⟨⟨0, 0, (none, [], 0), none, [], 0⟩⟩

theorem at_of_cells {w : World} {y : Addr} {us : List Value} (h : ∀ j, j < us.length → w.cell? (y.add j) = us[j]?) : At w w.heap.size (some y) us := by
  intro hne
  have hpos : 0 < us.length := List.length_pos_iff.2 hne
  have h0 := h 0 hpos
  rw [List.getElem?_eq_getElem hpos] at h0
  have hspot : y.spot = none := World.cell?_spot (a := y) (by simpa [Addr.add] using h0)
  obtain ⟨b, off, spot⟩ := y
  have hspot' : spot = none := hspot
  subst hspot'
  refine ⟨b, off, rfl, World.block_lt_of_cell? w ⟨b, off, none⟩ (by simpa [Addr.add] using h0), fun j u hu => ?_⟩
  have hj : j < us.length := (List.getElem?_eq_some_iff.1 hu).1
  have := h j hj
  rw [add_none] at this
  rw [this, hu]

section
variable {H : Type} {enc : TypeId × Value → H} {P : Program} {w : World} {base : Nat} {spare : Nat → Bool} {held : Bool}
/-- A slice of bytes that stands in a cell. -/
theorem open_card {fuel : Nat} {t e : TypeId} {v : Value} {x : DataW H × List MemPlace} (ht : P.underlying t = some (.slice e)) (he : P.underlying e = some (.int .u8)) (hc : P.cellsOf e = 1) (h : DataW.trod enc P w base spare held fuel t [v] = some x) :
    ∃ c : CardV, v = cardV c ∧ CardV.good w w.heap.size c := by
  have hv : ∃ a len cap, v = .slice a len cap := by
    rcases open_slice1 ht hc h with ⟨hcs, _⟩ | ⟨a, len, cap, _, _, _, _, _, hcs, _⟩
    · exact ⟨_, _, _, (List.cons.inj hcs).1⟩
    · exact ⟨_, _, _, (List.cons.inj hcs).1⟩
  obtain ⟨a, len, cap, rfl⟩ := hv
  obtain ⟨l, rfl, h1, h2, h3⟩ := open_bytes ht he hc h
  exact ⟨(a, l, cap), rfl, h3, h1, h2⟩

theorem open_cards {fuel : Nat} {t e b : TypeId} {v : Value} {x : DataW H × List MemPlace} (ht : P.underlying t = some (.slice e)) (hce : P.cellsOf e = 1) (he : P.underlying e = some (.slice b)) (hb : P.underlying b = some (.int .u8)) (hcb : P.cellsOf b = 1)
    (h : DataW.trod enc P w base spare held fuel t [v] = some x) :
    ∃ (a : Option Addr) (xs : List CardV) (cap : Nat), v = .slice a xs.length cap ∧ xs.length ≤ cap ∧ cap ≤ maxLen ∧ At w w.heap.size a (xs.map cardV) ∧ ∀ x ∈ xs, CardV.good w w.heap.size x := by
  rcases open_slice1 ht hce h with ⟨hcs, _⟩ | ⟨a, len, cap, m, n, V, D, Pl, hcs, _, hl, hm, hmm, _, hx⟩
  · exact ⟨none, [], 0, (List.cons.inj hcs).1, Nat.le_refl _, Nat.zero_le _, At.nil_, by simp⟩
  · have hlm : len ≤ m := by rw [hmm]; split <;> omega
    obtain ⟨f, hf⟩ := choose_lt (α := CardV) (n := len) (p := fun i c => V i = cardV c ∧ CardV.good w w.heap.size c) (fun i hi => by
      obtain ⟨_, h2⟩ := hx i (by omega)
      exact open_card he hb hcb h2)
    refine ⟨some a, (List.range len).map f, cap, by rw [(List.cons.inj hcs).1]; simp, by simpa using hl, hm, at_of_cells fun j hj => ?_, ?_⟩
    · simp only [List.length_map, List.length_range] at hj
      rw [(hx j (by omega)).1, (hf j hj).1]
      simp [hj]
    · intro x hx
      simp only [List.mem_map, List.mem_range] at hx
      obtain ⟨i, hi, rfl⟩ := hx
      exact (hf i hi).2

theorem list_4 {α : Type} {l : List α} (h : l.length = 4) : ∃ a b c d, l = [a, b, c, d] := by
  match l, h with
  | [a, b, c, d], _ => exact ⟨a, b, c, d, rfl⟩

theorem open_acts {fuel : Nat} {t e : TypeId} {fs : Array Field} {t0 t1 t2 t3 tb : TypeId} {v : Value} {x : DataW H × List MemPlace} (ht : P.underlying t = some (.slice e)) (he : P.underlying e = some (.struct fs)) (hc : P.cellsOf e = 4) (hone : oneCellFields P fs = true)
    (hf0 : ∃ f, fs[0]? = some f ∧ f.type = t0) (hf1 : ∃ f, fs[1]? = some f ∧ f.type = t1) (hf2 : ∃ f, fs[2]? = some f ∧ f.type = t2) (hf3 : ∃ f, fs[3]? = some f ∧ f.type = t3)
    (h0 : P.underlying t0 = some (.int .u8)) (h1 : P.underlying t1 = some (.int .i64)) (h2 : P.underlying t2 = some (.slice tb)) (hb : P.underlying tb = some (.int .u8)) (hcb : P.cellsOf tb = 1) (h3 : P.underlying t3 = some (.slice t2)) (hc2 : P.cellsOf t2 = 1)
    (h : DataW.trod enc P w base spare held fuel t [v] = some x) :
    ∃ (a : Option Addr) (xs : List ActV) (cap : Nat), v = .slice a xs.length cap ∧ xs.length ≤ cap ∧ cap ≤ maxLen ∧ At w w.heap.size a (xs.flatMap actCells) ∧ ∀ x ∈ xs, ActV.good w w.heap.size x := by
  rcases open_slice ht h with ⟨hcs, _⟩ | ⟨a, len, cap, m, n, D, Pl, hcs, _, hl, hm, hmm, _, hx⟩
  · exact ⟨none, [], 0, (List.cons.inj hcs).1, Nat.le_refl _, Nat.zero_le _, At.nil_, by simp⟩
  · have hlm : len ≤ m := by rw [hmm]; split <;> omega
    rw [hc] at hx
    obtain ⟨f, hf⟩ := choose_lt (α := ActV) (n := len) (p := fun i c => w.cells? base (a.add (i * 4)) 4 = some (actCells c) ∧ ActV.good w w.heap.size c) (fun i hi => by
      obtain ⟨cs', h4, h5⟩ := hx i (by omega)
      obtain ⟨xs, n', _, _, hcl, hlen, hg⟩ := DataW.trod_struct he h5
      rw [hc] at hcl
      obtain ⟨u0, u1, u2, u3, rfl⟩ := list_4 hcl
      obtain ⟨f0, e0, rfl⟩ := hf0
      obtain ⟨f1, e1, rfl⟩ := hf1
      obtain ⟨f2, e2, rfl⟩ := hf2
      obtain ⟨f3, e3, rfl⟩ := hf3
      have hfs : 4 ≤ fs.size := (Array.getElem?_eq_some_iff.1 e3).1
      have g0 := hg 0 f0 e0
      have g1 := hg 1 f1 e1
      have g2 := hg 2 f2 e2
      have g3 := hg 3 f3 e3
      rw [(hone_of hone 0 f0 e0).1, (hone_of hone 0 f0 e0).2, List.getElem?_eq_getElem (by omega)] at g0
      rw [(hone_of hone 1 f1 e1).1, (hone_of hone 1 f1 e1).2, List.getElem?_eq_getElem (by omega)] at g1
      rw [(hone_of hone 2 f2 e2).1, (hone_of hone 2 f2 e2).2, List.getElem?_eq_getElem (by omega)] at g2
      rw [(hone_of hone 3 f3 e3).1, (hone_of hone 3 f3 e3).2, List.getElem?_eq_getElem (by omega)] at g3
      simp only [List.drop_zero, List.drop_succ_cons, List.take_succ_cons, List.take_zero] at g0 g1 g2 g3
      obtain ⟨z0, q0, _, w0⟩ := DataW.trod_int h0 g0
      obtain ⟨k0, rfl⟩ := u8_of_wf w0
      obtain ⟨z1, q1, _, w1⟩ := DataW.trod_int h1 g1
      obtain ⟨c2, rfl, G2⟩ := open_card h2 hb hcb g2
      obtain ⟨C, cards, cc, rfl, G3⟩ := open_cards h3 hc2 h2 hb hcb g3
      obtain rfl := (List.cons.inj q0).1
      obtain rfl := (List.cons.inj q1).1
      exact ⟨⟨k0, z1, c2, C, cards, cc⟩, h4, G2, G3.2.2.1, G3.1, G3.2.1, G3.2.2.2⟩)
    refine ⟨some a, (List.range len).map f, cap, by rw [(List.cons.inj hcs).1]; simp, by simpa using hl, hm, at_of_cells fun j hj => ?_, ?_⟩
    · have hlen : ∀ l : List ActV, (l.flatMap actCells).length = l.length * 4 := by
        intro l; induction l with
        | nil => rfl
        | cons x l ih => simp [actCells, ih]; omega
      rw [hlen, List.length_map, List.length_range] at hj
      have hget : ∀ (l : List ActV) (j : Nat), (l.flatMap actCells)[j]? = (l[j / 4]?).bind fun a => (actCells a)[j % 4]? := by
        intro l
        induction l with
        | nil => intro j; simp
        | cons x l ih =>
          intro j
          rw [List.flatMap_cons]
          by_cases hj : j < 4
          · rw [List.getElem?_append_left (by simpa [actCells] using hj), Nat.div_eq_of_lt hj, Nat.mod_eq_of_lt hj]; rfl
          · rw [List.getElem?_append_right (by simp [actCells]; omega), ih, show (actCells x).length = 4 from rfl, show j / 4 = (j - 4) / 4 + 1 by omega, show (j - 4) % 4 = j % 4 by omega]; rfl
      rw [hget, List.getElem?_map, List.getElem?_range (by omega)]
      have hji : j / 4 < len := by omega
      have := (World.cells?_some (hf (j / 4) hji).1).2.2 (j % 4) (by omega)
      rw [add_add, show j / 4 * 4 + j % 4 = j by omega] at this
      exact this
    · intro x hx
      simp only [List.mem_map, List.mem_range] at hx
      obtain ⟨i, hi, rfl⟩ := hx
      exact (hf i hi).2
end
end Go.Proofs.Ytgklbilkfmieoaa
