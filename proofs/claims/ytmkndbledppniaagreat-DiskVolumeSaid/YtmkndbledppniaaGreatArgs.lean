/- Slices of records, of bools and of bytes among the arguments: opened for the walks. -/
import Derived.Test.YtmkndbledppniaaGreatFrame
import Derived.Test.YtmkndbledppniaaGreatRec
import Derived.Deep.Fields
import Derived.Deep.Slices
namespace Go.Proofs.YtmkndbledppniaaGreat
open Go.ChangeShapes Go.WideShapes Go.ChangeAt Go.RowKit Go.Deep

/-- A slice of bytes as a value: where it lies, its bytes, its capacity. -/
abbrev CardV := Option Addr × List UInt8 × Nat
def cardV (x : CardV) : Value := .slice x.1 x.2.1.length x.2.2
def CardV.good (w : World) (B : Nat) (x : CardV) : Prop := At w B x.1 (Lib.byteCells x.2.1) ∧ x.2.1.length ≤ x.2.2 ∧ x.2.2 ≤ maxLen
theorem CardV.good.below {w w' : World} {B : Nat} {x : CardV} (h : CardV.good w B x) (hb : Below B w w') : CardV.good w' B x := ⟨h.1.below hb, h.2⟩

/-- A record as an argument. -/
structure RecVA where
  r : Int
  key : CardV
  data : CardV
  bad : Bool
def RecVA.rc (b : RecVA) : Rec := ⟨b.r, b.key.2.1, b.data.2.1, b.bad⟩
def recVCells (b : RecVA) : List Value := [.int .i64 b.r, cardV b.key, cardV b.data, .bool b.bad]
instance : Inhabited RecVA := ⟨⟨0, (none, [], 0), (none, [], 0), false⟩⟩
theorem at_of_cells {w : World} {y : Addr} {us : List Value} (h : ∀ j, j < us.length → w.cell? (y.add j) = us[j]?) : At w w.heap.size (some y) us := by
  intro hne
  have hpos : 0 < us.length := List.length_pos_iff.2 hne
  have h0 := h 0 hpos
  rw [List.getElem?_eq_getElem hpos] at h0
  have hspot : y.spot = none := World.cell?_spot (a := y) (by simpa [Addr.add] using h0)
  obtain ⟨b, off, spot⟩ := y
  have hspot' : spot = none := hspot
  subst hspot'
  refine ⟨b, off, rfl, World.block_lt_of_cell? w ⟨b, off, none⟩ (by simpa [Addr.add] using h0), fun j u hu => ?_⟩
  have hj : j < us.length := (List.getElem?_eq_some_iff.1 hu).1
  have := h j hj
  rw [add_none] at this
  rw [this, hu]

section
variable {H : Type} {enc : TypeId × Value → H} {P : Program} {w : World} {base : Nat} {spare : Nat → Bool} {held : Bool}
/-- A slice of bytes that stands in a cell. -/
theorem open_card {fuel : Nat} {t e : TypeId} {v : Value} {x : DataW H × List MemPlace} (ht : P.underlying t = some (.slice e)) (he : P.underlying e = some (.int .u8)) (hc : P.cellsOf e = 1) (h : DataW.trod enc P w base spare held fuel t [v] = some x) :
    ∃ c : CardV, v = cardV c ∧ CardV.good w w.heap.size c := by
  have hv : ∃ a len cap, v = .slice a len cap := by
    rcases open_slice1 ht hc h with ⟨hcs, _⟩ | ⟨a, len, cap, _, _, _, _, _, hcs, _⟩
    · exact ⟨_, _, _, (List.cons.inj hcs).1⟩
    · exact ⟨_, _, _, (List.cons.inj hcs).1⟩
  obtain ⟨a, len, cap, rfl⟩ := hv
  obtain ⟨l, rfl, h1, h2, h3⟩ := open_bytes ht he hc h
  exact ⟨(a, l, cap), rfl, h3, h1, h2⟩

theorem open_cards {fuel : Nat} {t e b : TypeId} {v : Value} {x : DataW H × List MemPlace} (ht : P.underlying t = some (.slice e)) (hce : P.cellsOf e = 1) (he : P.underlying e = some (.slice b)) (hb : P.underlying b = some (.int .u8)) (hcb : P.cellsOf b = 1)
    (h : DataW.trod enc P w base spare held fuel t [v] = some x) :
    ∃ (a : Option Addr) (xs : List CardV) (cap : Nat), v = .slice a xs.length cap ∧ xs.length ≤ cap ∧ cap ≤ maxLen ∧ At w w.heap.size a (xs.map cardV) ∧ ∀ x ∈ xs, CardV.good w w.heap.size x := by
  rcases open_slice1 ht hce h with ⟨hcs, _⟩ | ⟨a, len, cap, m, n, V, D, Pl, hcs, _, hl, hm, hmm, _, hx⟩
  · exact ⟨none, [], 0, (List.cons.inj hcs).1, Nat.le_refl _, Nat.zero_le _, At.nil_, by simp⟩
  · have hlm : len ≤ m := by rw [hmm]; split <;> omega
    obtain ⟨f, hf⟩ := choose_lt (α := CardV) (n := len) (p := fun i c => V i = cardV c ∧ CardV.good w w.heap.size c) (fun i hi => by
      obtain ⟨_, h2⟩ := hx i (by omega)
      exact open_card he hb hcb h2)
    refine ⟨some a, (List.range len).map f, cap, by rw [(List.cons.inj hcs).1]; simp, by simpa using hl, hm, at_of_cells fun j hj => ?_, ?_⟩
    · simp only [List.length_map, List.length_range] at hj
      rw [(hx j (by omega)).1, (hf j hj).1]
      simp [hj]
    · intro x hx
      simp only [List.mem_map, List.mem_range] at hx
      obtain ⟨i, hi, rfl⟩ := hx
      exact (hf i hi).2

theorem list_3 {α : Type} {l : List α} (h : l.length = 3) : ∃ a b c, l = [a, b, c] := by
  match l, h with
  | [a, b, c], _ => exact ⟨a, b, c, rfl⟩
theorem list_4 {α : Type} {l : List α} (h : l.length = 4) : ∃ a b c d, l = [a, b, c, d] := by
  match l, h with
  | [a, b, c, d], _ => exact ⟨a, b, c, d, rfl⟩
theorem flat_get {α : Type} (f : α → List Value) (k : Nat) (hk : 0 < k) (hf : ∀ a, (f a).length = k) : ∀ (l : List α) (j : Nat), (l.flatMap f)[j]? = (l[j / k]?).bind fun a => (f a)[j % k]?
  | [], j => by simp
  | x :: l, j => by
    rw [List.flatMap_cons]
    by_cases hj : j < k
    · rw [List.getElem?_append_left (by rw [hf]; exact hj), Nat.div_eq_of_lt hj, Nat.mod_eq_of_lt hj]; rfl
    · rw [List.getElem?_append_right (by rw [hf]; omega), flat_get f k hk hf l, hf]
      obtain ⟨i, rfl⟩ : ∃ i, j = i + k := ⟨j - k, by omega⟩
      rw [Nat.add_sub_cancel, Nat.add_div_right _ hk, Nat.add_mod_right]
      rfl
theorem flat_len {α : Type} (f : α → List Value) (k : Nat) (hf : ∀ a, (f a).length = k) : ∀ l : List α, (l.flatMap f).length = l.length * k
  | [] => by simp
  | x :: l => by rw [List.flatMap_cons, List.length_append, hf, flat_len f k hf l, List.length_cons, Nat.add_mul]; omega
theorem open_recs {fuel : Nat} {t e : TypeId} {fs : Array Field} {t0 t1 t2 t3 tb : TypeId} {v : Value} {x : DataW H × List MemPlace} (ht : P.underlying t = some (.slice e)) (he : P.underlying e = some (.struct fs)) (hc : P.cellsOf e = 4) (hone : oneCellFields P fs = true)
    (hf0 : ∃ f, fs[0]? = some f ∧ f.type = t0) (hf1 : ∃ f, fs[1]? = some f ∧ f.type = t1) (hf2 : ∃ f, fs[2]? = some f ∧ f.type = t2) (hf3 : ∃ f, fs[3]? = some f ∧ f.type = t3)
    (h0 : P.underlying t0 = some (.int .i64)) (h1 : P.underlying t1 = some (.slice tb)) (hb : P.underlying tb = some (.int .u8)) (hcb : P.cellsOf tb = 1) (h2 : P.underlying t2 = some (.slice tb)) (h3 : P.underlying t3 = some .bool)
    (h : DataW.trod enc P w base spare held fuel t [v] = some x) :
    ∃ (a : Option Addr) (bs : List Rec) (cap : Nat), v = .slice a bs.length cap ∧ bs.length ≤ cap ∧ cap ≤ maxLen ∧ RecsAt w a bs := by
  rcases open_slice ht h with ⟨hcs, _⟩ | ⟨a, len, cap, m, n, D, Pl, hcs, _, hl, hm, hmm, _, hx⟩
  · exact ⟨none, [], 0, (List.cons.inj hcs).1, Nat.le_refl _, Nat.zero_le _, fun i b hb => by simp at hb⟩
  · have hlm : len ≤ m := by rw [hmm]; split <;> omega
    rw [hc] at hx
    obtain ⟨f, hf⟩ := choose_lt (α := RecVA) (n := len) (p := fun i c => w.cells? base (a.add (i * 4)) 4 = some (recVCells c) ∧ CardV.good w w.heap.size c.key ∧ CardV.good w w.heap.size c.data) (fun i hi => by
      obtain ⟨cs', h4, h5⟩ := hx i (by omega)
      obtain ⟨xs, n', _, _, hcl, hlen, hg⟩ := DataW.trod_struct he h5
      rw [hc] at hcl
      obtain ⟨u0, u1, u2, u3, rfl⟩ := list_4 hcl
      obtain ⟨f0, e0, rfl⟩ := hf0
      obtain ⟨f1, e1, rfl⟩ := hf1
      obtain ⟨f2, e2, rfl⟩ := hf2
      obtain ⟨f3, e3, rfl⟩ := hf3
      have hfs : 4 ≤ fs.size := (Array.getElem?_eq_some_iff.1 e3).1
      have g0 := hg 0 f0 e0
      have g1 := hg 1 f1 e1
      have g2 := hg 2 f2 e2
      have g3 := hg 3 f3 e3
      rw [(hone_of hone 0 f0 e0).1, (hone_of hone 0 f0 e0).2, List.getElem?_eq_getElem (by omega)] at g0
      rw [(hone_of hone 1 f1 e1).1, (hone_of hone 1 f1 e1).2, List.getElem?_eq_getElem (by omega)] at g1
      rw [(hone_of hone 2 f2 e2).1, (hone_of hone 2 f2 e2).2, List.getElem?_eq_getElem (by omega)] at g2
      rw [(hone_of hone 3 f3 e3).1, (hone_of hone 3 f3 e3).2, List.getElem?_eq_getElem (by omega)] at g3
      simp only [List.drop_zero, List.drop_succ_cons, List.take_succ_cons, List.take_zero] at g0 g1 g2 g3
      obtain ⟨z0, q0, _, _⟩ := DataW.trod_int h0 g0
      obtain ⟨c1, rfl, G1⟩ := open_card h1 hb hcb g1
      obtain ⟨c2, rfl, G2⟩ := open_card h2 hb hcb g2
      obtain ⟨z3, q3, _⟩ := DataW.trod_bool h3 g3
      obtain rfl := (List.cons.inj q0).1
      obtain rfl := (List.cons.inj q3).1
      exact ⟨⟨z0, c1, c2, z3⟩, h4, G1, G2⟩)
    refine ⟨some a, ((List.range len).map f).map RecVA.rc, cap, by rw [(List.cons.inj hcs).1]; simp, by simpa using hl, hm, ?_⟩
    intro i b hb
    rw [List.getElem?_map, List.getElem?_map] at hb
    by_cases hi : i < len
    · rw [List.getElem?_range hi] at hb
      simp only [Option.map_some, Option.some.injEq] at hb
      subst hb
      obtain ⟨h4, G1, G2⟩ := hf i hi
      have c0 := (World.cells?_some h4).2.2 0 (by omega)
      have c1 := (World.cells?_some h4).2.2 1 (by omega)
      have c2 := (World.cells?_some h4).2.2 2 (by omega)
      have c3 := (World.cells?_some h4).2.2 3 (by omega)
      have hspot : a.spot = none := by
        have d0 := (World.cells?_some (hf 0 (by omega)).1).2.2 0 (by omega)
        exact World.cell?_spot (v := .int .i64 (f 0).r) (a := a) (by simpa [Addr.add, recVCells] using d0)
      obtain ⟨g, off, spot⟩ := a
      have hspot' : spot = none := hspot
      subst hspot'
      rw [add_add, add_none] at c0 c1 c2 c3
      exact ⟨g, off, _, _, _, _, rfl, c0, c1, c2, c3, G1, G2⟩
    · rw [List.getElem?_eq_none (by simpa using hi)] at hb
      cases hb
theorem open_bools {fuel : Nat} {t e : TypeId} {v : Value} {x : DataW H × List MemPlace} (ht : P.underlying t = some (.slice e)) (hce : P.cellsOf e = 1) (he : P.underlying e = some .bool)
    (h : DataW.trod enc P w base spare held fuel t [v] = some x) :
    ∃ (a : Option Addr) (xs : List Bool) (cap : Nat), v = .slice a xs.length cap ∧ xs.length ≤ cap ∧ cap ≤ maxLen ∧ At w w.heap.size a (xs.map Value.bool) := by
  rcases open_slice1 ht hce h with ⟨hcs, _⟩ | ⟨a, len, cap, m, n, V, D, Pl, hcs, _, hl, hm, hmm, _, hx⟩
  · exact ⟨none, [], 0, (List.cons.inj hcs).1, Nat.le_refl _, Nat.zero_le _, At.nil_⟩
  · have hlm : len ≤ m := by rw [hmm]; split <;> omega
    obtain ⟨f, hf⟩ := choose_lt (α := Bool) (n := len) (p := fun i c => V i = .bool c) (fun i hi => by
      obtain ⟨_, h2⟩ := hx i (by omega)
      obtain ⟨z, q, _⟩ := DataW.trod_bool he h2
      exact ⟨z, (List.cons.inj q).1⟩)
    refine ⟨some a, (List.range len).map f, cap, by rw [(List.cons.inj hcs).1]; simp, by simpa using hl, hm, at_of_cells fun j hj => ?_⟩
    simp only [List.length_map, List.length_range] at hj
    rw [(hx j (by omega)).1, hf j hj]
    simp [hj]
end
end Go.Proofs.YtmkndbledppniaaGreat
