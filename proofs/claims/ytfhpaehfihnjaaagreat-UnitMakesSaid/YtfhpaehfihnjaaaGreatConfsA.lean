/- DStruct, DSteps, ConfsW. -/
import Derived.Test.YtfhpaehfihnjaaaGreatDD
import Derived.Deep.Fields
import Derived.SizedLaws
import Derived.Test.YtfhpaehfihnjaaaGreatNew
namespace Go.Proofs.YtfhpaehfihnjaaaGreat.D
open Go.ChangeShapes Go.WideShapes Go.ChangeAt Go.RowKit Go.Deep
theorem open_fields {H : Type} {enc : TypeId × Value → H} {P : Program} {w : World} {base : Nat} {spare : Nat → Bool} {held : Bool} {r : Reach} {b0 : Nat} {t : TypeId} {fs : Array Field} {v : Value} {d : DataW H} {p : List MemPlace}
    (hs : P.underlying t = some (.struct fs)) (hone : oneCellFields P fs = true) (hv : Value.okWide P w r b0 t v) (h : DataW.Trod enc P w base spare held t v d p) :
    ∃ cs : Array Value, v = .agg cs ∧ cs.size = P.cellsOf t ∧ ∀ (i : Nat) (f : Field) (u : Value), fs[i]? = some f → cs[i]? = some u → ∃ m y, DataW.trod enc P w base spare held m f.type [u] = some y := by
  obtain ⟨cs, rfl, hsz⟩ := okWide_struct hs hv
  refine ⟨cs, rfl, hsz, fun i f u hi hu => ?_⟩
  obtain ⟨fuel, hf⟩ := h
  obtain ⟨xs, n, _, _, _, hlen, hg⟩ := DataW.trod_struct hs hf
  obtain ⟨o, k⟩ := hone_of hone i f hi
  have hg' := hg i f hi
  have hil : i < fs.size := (Array.getElem?_eq_some_iff.1 hi).1
  rw [o, k, List.getElem?_eq_getElem (by omega)] at hg'
  refine ⟨n, xs[i]'(by omega), ?_⟩
  have e : (List.drop i (Value.agg cs).cells.toList).take 1 = [u] := by
    have hu' : cs.toList[i]? = some u := by simpa using hu
    obtain ⟨hl, hu2⟩ := List.getElem?_eq_some_iff.1 hu'
    show (List.drop i cs.toList).take 1 = [u]
    rw [List.drop_eq_getElem_cons hl, List.take_succ_cons, List.take_zero, hu2]
  rw [← e]
  exact hg'
theorem array_5 {α : Type} {cs : Array α} (h : cs.size = 5) : ∃ a0 a1 a2 a3 a4 : α, cs = #[a0, a1, a2, a3, a4] := by
  obtain ⟨l⟩ := cs
  match l, h with
  | [a0, a1, a2, a3, a4], _ => exact ⟨a0, a1, a2, a3, a4, rfl⟩
theorem array_8 {α : Type} {cs : Array α} (h : cs.size = 8) : ∃ a0 a1 a2 a3 a4 a5 a6 a7 : α, cs = #[a0, a1, a2, a3, a4, a5, a6, a7] := by
  obtain ⟨l⟩ := cs
  match l, h with
  | [a0, a1, a2, a3, a4, a5, a6, a7], _ => exact ⟨a0, a1, a2, a3, a4, a5, a6, a7, rfl⟩
theorem array_4 {α : Type} {a : Array α} (h : a.size = 4) : ∃ x0 x1 x2 x3, a = #[x0, x1, x2, x3] := by
  obtain ⟨l⟩ := a
  match l, h with
  | [x0, x1, x2, x3], _ => exact ⟨x0, x1, x2, x3, rfl⟩
end Go.Proofs.YtfhpaehfihnjaaaGreat.D
namespace Go.Proofs.YtfhpaehfihnjaaaGreat.D
open Go.ChangeShapes Go.WideShapes Go.ChangeAt Go.RowKit Go.Deep
structure StepV where
  what : Int
  op : Int
  n : Int
  data : CardV
  ta : Option Addr
  t : List Rec
  tc : Nat
instance : Inhabited StepV := ⟨⟨0, 0, 0, (none, [], 0), none, [], 0⟩⟩
def stepCells (b : StepV) : List Value := [.int .i64 b.what, .int .i64 b.op, .int .i64 b.n, cardV b.data, .slice b.ta b.t.length b.tc]
def StepV.good (w : World) (b : StepV) : Prop := CardV.good w w.heap.size b.data ∧ RecsAt w b.ta b.t ∧ FitV b.t
theorem list_5 {α : Type} {l : List α} (h : l.length = 5) : ∃ a b c d e, l = [a, b, c, d, e] := by
  match l, h with
  | [a, b, c, d, e], _ => exact ⟨a, b, c, d, e, rfl⟩
section
variable {H : Type} {enc : TypeId × Value → H} {P : Program} {w : World} {base : Nat} {spare : Nat → Bool} {held : Bool}
theorem weightsAll_mem {e : TypeId} {d : DataW H} {n : Nat} : ∀ {l : List (DataW H)}, d ∈ l → n ∈ d.weights P e → n ∈ DataW.weightsAll P e l
  | [], h, _ => by cases h
  | x :: l, h, hn => by
    simp only [DataW.weightsAll, List.mem_append]
    rcases List.mem_cons.1 h with rfl | h
    · exact Or.inl hn
    · exact Or.inr (weightsAll_mem h hn)
theorem card_weight {R : Nat} {fuel : Nat} {t e : TypeId} {c : CardV} {x : DataW H × List MemPlace} (ht : P.underlying t = some (.slice e)) (_he : P.underlying e = some (.int .u8)) (hc : P.cellsOf e = 1) (hb : P.bytesOf e = 1) (h : DataW.trod enc P w base spare held fuel t [cardV c] = some x) (hR : ∀ n ∈ DataW.weights P t x.1, n ≤ R) : c.2.1.length ≤ R := by
  rcases open_slice1 ht hc h with ⟨hcs, _⟩ | ⟨a, len, cap, m, n, V, D, Pl, hcs, _, hl, hm, hmm, hxe, hx⟩
  · have := (List.cons.inj hcs).1
    unfold cardV at this
    injection this with _ h0 _
    omega
  · have := (List.cons.inj hcs).1
    unfold cardV at this
    injection this with _ h0 _
    have h1 := hR ((len + (m - len)) * 1) (by rw [hxe]; simp [DataW.weights, ht, hb])
    omega
theorem open_recsW {R : Nat} {fuel : Nat} {t e : TypeId} {fs : Array Field} {t0 t1 t2 t3 tb : TypeId} {v : Value} {x : DataW H × List MemPlace} (ht : P.underlying t = some (.slice e)) (he : P.underlying e = some (.struct fs)) (hc : P.cellsOf e = 4) (hone : oneCellFields P fs = true)
    (hf0 : ∃ f, fs[0]? = some f ∧ f.type = t0) (hf1 : ∃ f, fs[1]? = some f ∧ f.type = t1) (hf2 : ∃ f, fs[2]? = some f ∧ f.type = t2) (hf3 : ∃ f, fs[3]? = some f ∧ f.type = t3)
    (h0 : P.underlying t0 = some (.int .i64)) (h1 : P.underlying t1 = some (.slice tb)) (hb : P.underlying tb = some (.int .u8)) (hcb : P.cellsOf tb = 1) (h2 : P.underlying t2 = some (.slice tb)) (h3 : P.underlying t3 = some .bool)
    (h : DataW.trod enc P w base spare held fuel t [v] = some x) (h64 : 1 ≤ P.bytesOf e) (hb1 : P.bytesOf tb = 1) (hR : ∀ n ∈ DataW.weights P t x.1, n ≤ R) :
    ∃ (a : Option Addr) (bs : List Rec) (cap : Nat), v = .slice a bs.length cap ∧ bs.length ≤ cap ∧ cap ≤ maxLen ∧ RecsAt w a bs ∧ bs.length ≤ R ∧ ∀ b ∈ bs, b.key.length ≤ R ∧ b.data.length ≤ R := by
  rcases open_slice ht h with ⟨hcs, _⟩ | ⟨a, len, cap, m, n, D, Pl, hcs, _, hl, hm, hmm, hxe, hx⟩
  · exact ⟨none, [], 0, (List.cons.inj hcs).1, Nat.le_refl _, Nat.zero_le _, (fun i b hb => by simp at hb), by simp, (fun b hb => by simp at hb)⟩
  · have hlm : len ≤ m := by rw [hmm]; split <;> omega
    have hw1 : ∀ i, i < len → ∀ n ∈ DataW.weights P e (D i), n ≤ R := fun i hi n hn => hR n (by
      rw [hxe]
      simp only [DataW.weights, ht, List.mem_cons, List.mem_append]
      exact Or.inr (Or.inl (weightsAll_mem (List.mem_map.2 ⟨i, List.mem_range.2 hi, rfl⟩) hn)))
    have hw0 : len ≤ R := Nat.le_trans (Nat.le_trans (Nat.le_add_right len (m - len)) (Nat.le_mul_of_pos_right _ h64)) (hR ((len + (m - len)) * P.bytesOf e) (by
      rw [hxe]
      simp [DataW.weights, ht]))
    rw [hc] at hx
    obtain ⟨f, hf⟩ := choose_lt (α := RecVA) (n := len) (p := fun i c => w.cells? base (a.add (i * 4)) 4 = some (recVCells c) ∧ CardV.good w w.heap.size c.key ∧ CardV.good w w.heap.size c.data ∧ c.key.2.1.length ≤ R ∧ c.data.2.1.length ≤ R) (fun i hi => by
      obtain ⟨cs', h4, h5⟩ := hx i (by omega)
      obtain ⟨xs, n', _, hde, hcl, hlen, hg⟩ := DataW.trod_struct he h5
      rw [hc] at hcl
      obtain ⟨u0, u1, u2, u3, rfl⟩ := list_4 hcl
      obtain ⟨f0, e0, rfl⟩ := hf0
      obtain ⟨f1, e1, rfl⟩ := hf1
      obtain ⟨f2, e2, rfl⟩ := hf2
      obtain ⟨f3, e3, rfl⟩ := hf3
      have hfs : 4 ≤ fs.size := (Array.getElem?_eq_some_iff.1 e3).1
      have g0 := hg 0 f0 e0
      have g1 := hg 1 f1 e1
      have g2 := hg 2 f2 e2
      have g3 := hg 3 f3 e3
      rw [(hone_of hone 0 f0 e0).1, (hone_of hone 0 f0 e0).2, List.getElem?_eq_getElem (by omega)] at g0
      rw [(hone_of hone 1 f1 e1).1, (hone_of hone 1 f1 e1).2, List.getElem?_eq_getElem (by omega)] at g1
      rw [(hone_of hone 2 f2 e2).1, (hone_of hone 2 f2 e2).2, List.getElem?_eq_getElem (by omega)] at g2
      rw [(hone_of hone 3 f3 e3).1, (hone_of hone 3 f3 e3).2, List.getElem?_eq_getElem (by omega)] at g3
      simp only [List.drop_zero, List.drop_succ_cons, List.take_succ_cons, List.take_zero] at g0 g1 g2 g3
      have hwf : ∀ (j : Nat) (f : Field) (hf : fs[j]? = some f) (hj : j < xs.length), ∀ n ∈ DataW.weights P f.type (xs[j]'hj).1, n ≤ R := fun j f hf hj n hn => hw1 i hi n (by
        rw [(Prod.mk.inj hde).1]
        simp only [DataW.weights, he]
        exact DataW.weights_mem_each (j := j) (t := f.type) (d := (xs[j]'hj).1) (by simp [hf]) (by rw [List.getElem?_map, List.getElem?_eq_getElem hj]; rfl) n hn)
      obtain ⟨z0, q0, _, _⟩ := DataW.trod_int h0 g0
      obtain ⟨c1, rfl, G1⟩ := open_card h1 hb hcb g1
      have hc1 := card_weight h1 hb hcb hb1 g1 (hwf 1 f1 e1 (by omega))
      obtain ⟨c2, rfl, G2⟩ := open_card h2 hb hcb g2
      have hc2 := card_weight h2 hb hcb hb1 g2 (hwf 2 f2 e2 (by omega))
      obtain ⟨z3, q3, _⟩ := DataW.trod_bool h3 g3
      obtain rfl := (List.cons.inj q0).1
      obtain rfl := (List.cons.inj q3).1
      exact ⟨⟨z0, c1, c2, z3⟩, h4, G1, G2, hc1, hc2⟩)
    refine ⟨some a, ((List.range len).map f).map RecVA.rc, cap, by rw [(List.cons.inj hcs).1]; simp, by simpa using hl, hm, ?_, by simpa using hw0, ?_⟩
    rotate_left
    · intro b hb
      simp only [List.mem_map, List.mem_range] at hb
      obtain ⟨_, ⟨i, hi, rfl⟩, rfl⟩ := hb
      exact (hf i hi).2.2.2
    intro i b hb
    rw [List.getElem?_map, List.getElem?_map] at hb
    by_cases hi : i < len
    · rw [List.getElem?_range hi] at hb
      simp only [Option.map_some, Option.some.injEq] at hb
      subst hb
      obtain ⟨h4, G1, G2, _, _⟩ := hf i hi
      have c0 := (World.cells?_some h4).2.2 0 (by omega)
      have c1 := (World.cells?_some h4).2.2 1 (by omega)
      have c2 := (World.cells?_some h4).2.2 2 (by omega)
      have c3 := (World.cells?_some h4).2.2 3 (by omega)
      have hspot : a.spot = none := by
        have d0 := (World.cells?_some (hf 0 (by omega)).1).2.2 0 (by omega)
        exact World.cell?_spot (v := .int .i64 (f 0).r) (a := a) (by simpa [Addr.add, recVCells] using d0)
      obtain ⟨g, off, spot⟩ := a
      have hspot' : spot = none := hspot
      subst hspot'
      rw [add_add, add_none] at c0 c1 c2 c3
      exact ⟨g, off, _, _, _, _, rfl, c0, c1, c2, c3, G1, G2⟩
    · rw [List.getElem?_eq_none (by simpa using hi)] at hb
      cases hb
theorem open_steps {R : Nat} (hRR : R ≤ 140737488355328) {fuel : Nat} {t e : TypeId} {fs : Array Field} {t0 t1 t2 t3 t4 tb : TypeId} {v : Value} {x : DataW H × List MemPlace} (ht : P.underlying t = some (.slice e)) (he : P.underlying e = some (.struct fs)) (hc : P.cellsOf e = 5) (hone : oneCellFields P fs = true)
    (hf0 : ∃ f, fs[0]? = some f ∧ f.type = t0) (hf1 : ∃ f, fs[1]? = some f ∧ f.type = t1) (hf2 : ∃ f, fs[2]? = some f ∧ f.type = t2) (hf3 : ∃ f, fs[3]? = some f ∧ f.type = t3) (hf4 : ∃ f, fs[4]? = some f ∧ f.type = t4)
    (h0 : P.underlying t0 = some (.int .i64)) (h1 : P.underlying t1 = some (.int .i64)) (h2 : P.underlying t2 = some (.int .i64)) (h3 : P.underlying t3 = some (.slice tb)) (hb : P.underlying tb = some (.int .u8)) (hcb : P.cellsOf tb = 1)
    (hrec : ∀ {v : Value} {y : DataW H × List MemPlace} {fuel : Nat}, DataW.trod enc P w base spare held fuel t4 [v] = some y → (∀ n ∈ DataW.weights P t4 y.1, n ≤ R) →
      ∃ (a : Option Addr) (bs : List Rec) (cap : Nat), v = .slice a bs.length cap ∧ bs.length ≤ cap ∧ cap ≤ maxLen ∧ RecsAt w a bs ∧ bs.length ≤ R ∧ ∀ b ∈ bs, b.key.length ≤ R ∧ b.data.length ≤ R)
    (h : DataW.trod enc P w base spare held fuel t [v] = some x) (h80 : 1 ≤ P.bytesOf e) (hR : ∀ n ∈ DataW.weights P t x.1, n ≤ R) :
    ∃ (a : Option Addr) (bs : List StepV) (cap : Nat), v = .slice a bs.length cap ∧ bs.length ≤ cap ∧ cap ≤ maxLen ∧ At w w.heap.size a (bs.flatMap stepCells) ∧ (∀ b ∈ bs, StepV.good w b) ∧ bs.length ≤ R := by
  rcases open_slice ht h with ⟨hcs, _⟩ | ⟨a, len, cap, m, n, D, Pl, hcs, _, hl, hm, hmm, hxe, hx⟩
  · exact ⟨none, [], 0, (List.cons.inj hcs).1, Nat.le_refl _, Nat.zero_le _, At.nil_, by simp, by simp⟩
  · have hlm : len ≤ m := by rw [hmm]; split <;> omega
    have hw1 : ∀ i, i < len → ∀ n ∈ DataW.weights P e (D i), n ≤ R := fun i hi n hn => hR n (by
      rw [hxe]
      simp only [DataW.weights, ht, List.mem_cons, List.mem_append]
      exact Or.inr (Or.inl (weightsAll_mem (List.mem_map.2 ⟨i, List.mem_range.2 hi, rfl⟩) hn)))
    have hw0 : len ≤ R := Nat.le_trans (Nat.le_trans (Nat.le_add_right len (m - len)) (Nat.le_mul_of_pos_right _ h80)) (hR ((len + (m - len)) * P.bytesOf e) (by
      rw [hxe]
      simp [DataW.weights, ht]))
    rw [hc] at hx
    obtain ⟨f, hf⟩ := choose_lt (α := StepV) (n := len) (p := fun i c => w.cells? base (a.add (i * 5)) 5 = some (stepCells c) ∧ StepV.good w c) (fun i hi => by
      obtain ⟨cs', h4, h5⟩ := hx i (by omega)
      obtain ⟨xs, n', _, hde, hcl, hlen, hg⟩ := DataW.trod_struct he h5
      rw [hc] at hcl
      obtain ⟨u0, u1, u2, u3, u4, rfl⟩ := list_5 hcl
      obtain ⟨f0, e0, rfl⟩ := hf0
      obtain ⟨f1, e1, rfl⟩ := hf1
      obtain ⟨f2, e2, rfl⟩ := hf2
      obtain ⟨f3, e3, rfl⟩ := hf3
      obtain ⟨f4, e4, rfl⟩ := hf4
      have hfs : 5 ≤ fs.size := (Array.getElem?_eq_some_iff.1 e4).1
      have g0 := hg 0 f0 e0
      have g1 := hg 1 f1 e1
      have g2 := hg 2 f2 e2
      have g3 := hg 3 f3 e3
      have g4 := hg 4 f4 e4
      rw [(hone_of hone 0 f0 e0).1, (hone_of hone 0 f0 e0).2, List.getElem?_eq_getElem (by omega)] at g0
      rw [(hone_of hone 1 f1 e1).1, (hone_of hone 1 f1 e1).2, List.getElem?_eq_getElem (by omega)] at g1
      rw [(hone_of hone 2 f2 e2).1, (hone_of hone 2 f2 e2).2, List.getElem?_eq_getElem (by omega)] at g2
      rw [(hone_of hone 3 f3 e3).1, (hone_of hone 3 f3 e3).2, List.getElem?_eq_getElem (by omega)] at g3
      rw [(hone_of hone 4 f4 e4).1, (hone_of hone 4 f4 e4).2, List.getElem?_eq_getElem (by omega)] at g4
      simp only [List.drop_zero, List.drop_succ_cons, List.take_succ_cons, List.take_zero] at g0 g1 g2 g3 g4
      have hwf : ∀ (j : Nat) (f : Field) (hf : fs[j]? = some f) (hj : j < xs.length), ∀ n ∈ DataW.weights P f.type (xs[j]'hj).1, n ≤ R := fun j f hf hj n hn => hw1 i hi n (by
        rw [(Prod.mk.inj hde).1]
        simp only [DataW.weights, he]
        exact DataW.weights_mem_each (j := j) (t := f.type) (d := (xs[j]'hj).1) (by simp [hf]) (by rw [List.getElem?_map, List.getElem?_eq_getElem hj]; rfl) n hn)
      obtain ⟨z0, q0, _, _⟩ := DataW.trod_int h0 g0
      obtain ⟨z1, q1, _, _⟩ := DataW.trod_int h1 g1
      obtain ⟨z2, q2, _, _⟩ := DataW.trod_int h2 g2
      obtain ⟨c3, rfl, G3⟩ := open_card h3 hb hcb g3
      obtain ⟨a4, l4, c4, rfl, _, _, G4, hl4, hs4⟩ := hrec g4 (hwf 4 f4 e4 (by omega))
      obtain rfl := (List.cons.inj q0).1
      obtain rfl := (List.cons.inj q1).1
      obtain rfl := (List.cons.inj q2).1
      exact ⟨⟨z0, z1, z2, c3, a4, l4, c4⟩, h4, G3, G4, ⟨Nat.le_trans hl4 hRR, fun y hy => ⟨Nat.le_trans (hs4 y hy).1 hRR, Nat.le_trans (hs4 y hy).2 hRR⟩⟩⟩)
    refine ⟨some a, (List.range len).map f, cap, by rw [(List.cons.inj hcs).1]; simp, by simpa using hl, hm, at_of_cells fun j hj => ?_, ?_, by simpa using hw0⟩
    · rw [flat_len stepCells 5 (fun _ => rfl), List.length_map, List.length_range] at hj
      rw [flat_get stepCells 5 (by omega) (fun _ => rfl), List.getElem?_map, List.getElem?_range (by omega)]
      have hji : j / 5 < len := by omega
      have := (World.cells?_some (hf (j / 5) hji).1).2.2 (j % 5) (by omega)
      rw [add_add, show j / 5 * 5 + j % 5 = j by omega] at this
      exact this
    · intro x hx
      simp only [List.mem_map, List.mem_range] at hx
      obtain ⟨i, hi, rfl⟩ := hx
      exact (hf i hi).2
theorem open_fieldsW {R : Nat} {r : Reach} {b0 : Nat} {t : TypeId} {fs : Array Field} {v : Value} {d : DataW H} {p : List MemPlace}
    (hs : P.underlying t = some (.struct fs)) (hone : oneCellFields P fs = true) (hv : Value.okWide P w r b0 t v) (h : DataW.Trod enc P w base spare held t v d p) (hR : ∀ n ∈ DataW.weights P t d, n ≤ R) :
    ∃ cs : Array Value, v = .agg cs ∧ cs.size = P.cellsOf t ∧ ∀ (i : Nat) (f : Field) (u : Value), fs[i]? = some f → cs[i]? = some u → ∃ m y, DataW.trod enc P w base spare held m f.type [u] = some y ∧ ∀ n ∈ DataW.weights P f.type y.1, n ≤ R := by
  obtain ⟨cs, rfl, hsz⟩ := okWide_struct hs hv
  refine ⟨cs, rfl, hsz, fun i f u hi hu => ?_⟩
  obtain ⟨fuel, hf⟩ := h
  obtain ⟨xs, n, _, hde, _, hlen, hg⟩ := DataW.trod_struct hs hf
  obtain ⟨o, k⟩ := hone_of hone i f hi
  have hg' := hg i f hi
  have hil : i < fs.size := (Array.getElem?_eq_some_iff.1 hi).1
  rw [o, k, List.getElem?_eq_getElem (by omega)] at hg'
  refine ⟨n, xs[i]'(by omega), ?_, fun n hn => hR n (by
    rw [(Prod.mk.inj hde).1]
    simp only [DataW.weights, hs]
    exact DataW.weights_mem_each (j := i) (t := f.type) (d := (xs[i]'(by omega)).1) (by simp [hi]) (by rw [List.getElem?_map, List.getElem?_eq_getElem (by omega)]; rfl) n hn)⟩
  have e : (List.drop i (Value.agg cs).cells.toList).take 1 = [u] := by
    have hu' : cs.toList[i]? = some u := by simpa using hu
    obtain ⟨hl, hu2⟩ := List.getElem?_eq_some_iff.1 hu'
    show (List.drop i cs.toList).take 1 = [u]
    rw [List.drop_eq_getElem_cons hl, List.take_succ_cons, List.take_zero, hu2]
  rw [← e]
  exact hg'
theorem str_size {R : Nat} {t : TypeId} {d : DataW H} {s : ByteArray} (e : d = .lit (.string s.data.toList)) (hR : ∀ n ∈ DataW.weights P t d, n ≤ R) : s.size ≤ R := by
  have h := hR s.data.toList.length (by rw [e]; simp [DataW.weights])
  rw [Array.length_toList] at h
  exact h
theorem open_ser {R : Nat} {m : Nat} {t : TypeId} {u : Value} {y : DataW H × List MemPlace} (ht : P.underlying t = some .string) (h : DataW.trod enc P w base spare held m t [u] = some y) (hR : ∀ n ∈ DataW.weights P t y.1, n ≤ R) : ∃ s : ByteArray, u = .string s ∧ s.size ≤ R := by
  obtain ⟨s, hc, hx, _⟩ := DataW.trod_string ht h
  exact ⟨s, (List.cons.inj hc).1, str_size (congrArg Prod.fst hx) hR⟩
end
end Go.Proofs.YtfhpaehfihnjaaaGreat.D
namespace Go.Proofs.YtfhpaehfihnjaaaGreat
open Go.ChangeShapes Go.WideShapes Go.ChangeAt Go.RowKit Go.Deep Go.Proofs.YtfhpaehfihnjaaaGreat.D
instance : Inhabited Conf := ⟨⟨0, 0, ⟨#[]⟩, 0, 0⟩⟩
section
variable {H : Type} {enc : TypeId × Value → H} {P : Program} {w : World} {base : Nat} {spare : Nat → Bool} {held : Bool}
theorem open_confs {R : Nat} {fuel : Nat} {t e : TypeId} {fs : Array Field} {t0 t1 t2 t3 t4 : TypeId} {v : Value} {x : DataW H × List MemPlace} (ht : P.underlying t = some (.slice e)) (he : P.underlying e = some (.struct fs)) (hc : P.cellsOf e = 5) (hone : oneCellFields P fs = true)
    (hf0 : ∃ f, fs[0]? = some f ∧ f.type = t0) (hf1 : ∃ f, fs[1]? = some f ∧ f.type = t1) (hf2 : ∃ f, fs[2]? = some f ∧ f.type = t2) (hf3 : ∃ f, fs[3]? = some f ∧ f.type = t3) (hf4 : ∃ f, fs[4]? = some f ∧ f.type = t4)
    (h0 : P.underlying t0 = some (.int .i64)) (h1 : P.underlying t1 = some (.int .i64)) (h2 : P.underlying t2 = some .string) (h3 : P.underlying t3 = some (.int .i64)) (h4' : P.underlying t4 = some (.int .i64))
    (h : DataW.trod enc P w base spare held fuel t [v] = some x) (hR : ∀ n ∈ DataW.weights P t x.1, n ≤ R) :
    ∃ (a : Option Addr) (l : List Conf) (cap : Nat), v = .slice a l.length cap ∧ l.length ≤ cap ∧ cap ≤ maxLen ∧ At w w.heap.size a (l.flatMap confL) ∧ ∀ c ∈ l, c.serial.size ≤ R := by
  rcases open_slice ht h with ⟨hcs, _⟩ | ⟨a, len, cap, m, n, D, Pl, hcs, _, hl, hm, hmm, hxe, hx⟩
  · exact ⟨none, [], 0, (List.cons.inj hcs).1, Nat.le_refl _, Nat.zero_le _, At.nil_, by simp⟩
  · have hlm : len ≤ m := by rw [hmm]; split <;> omega
    have hw1 : ∀ i, i < len → ∀ n ∈ DataW.weights P e (D i), n ≤ R := fun i hi n hn => hR n (by
      rw [hxe]
      simp only [DataW.weights, ht, List.mem_cons, List.mem_append]
      exact Or.inr (Or.inl (weightsAll_mem (List.mem_map.2 ⟨i, List.mem_range.2 hi, rfl⟩) hn)))
    rw [hc] at hx
    obtain ⟨f, hf⟩ := choose_lt (α := Conf) (n := len) (p := fun i c => w.cells? base (a.add (i * 5)) 5 = some (confL c) ∧ c.serial.size ≤ R) (fun i hi => by
      obtain ⟨cs', h4, h5⟩ := hx i (by omega)
      obtain ⟨xs, n', _, hde, hcl, hlen, hg⟩ := DataW.trod_struct he h5
      rw [hc] at hcl
      obtain ⟨u0, u1, u2, u3, u4, rfl⟩ := list_5 hcl
      obtain ⟨f0, e0, rfl⟩ := hf0
      obtain ⟨f1, e1, rfl⟩ := hf1
      obtain ⟨f2, e2, rfl⟩ := hf2
      obtain ⟨f3, e3, rfl⟩ := hf3
      obtain ⟨f4, e4, rfl⟩ := hf4
      have hfs : 5 ≤ fs.size := (Array.getElem?_eq_some_iff.1 e4).1
      have g0 := hg 0 f0 e0
      have g1 := hg 1 f1 e1
      have g2 := hg 2 f2 e2
      have g3 := hg 3 f3 e3
      have g4 := hg 4 f4 e4
      rw [(hone_of hone 0 f0 e0).1, (hone_of hone 0 f0 e0).2, List.getElem?_eq_getElem (by omega)] at g0
      rw [(hone_of hone 1 f1 e1).1, (hone_of hone 1 f1 e1).2, List.getElem?_eq_getElem (by omega)] at g1
      rw [(hone_of hone 2 f2 e2).1, (hone_of hone 2 f2 e2).2, List.getElem?_eq_getElem (by omega)] at g2
      rw [(hone_of hone 3 f3 e3).1, (hone_of hone 3 f3 e3).2, List.getElem?_eq_getElem (by omega)] at g3
      rw [(hone_of hone 4 f4 e4).1, (hone_of hone 4 f4 e4).2, List.getElem?_eq_getElem (by omega)] at g4
      simp only [List.drop_zero, List.drop_succ_cons, List.take_succ_cons, List.take_zero] at g0 g1 g2 g3 g4
      have hwf : ∀ (j : Nat) (f : Field) (hf : fs[j]? = some f) (hj : j < xs.length), ∀ n ∈ DataW.weights P f.type (xs[j]'hj).1, n ≤ R := fun j f hf hj n hn => hw1 i hi n (by
        rw [(Prod.mk.inj hde).1]
        simp only [DataW.weights, he]
        exact DataW.weights_mem_each (j := j) (t := f.type) (d := (xs[j]'hj).1) (by simp [hf]) (by rw [List.getElem?_map, List.getElem?_eq_getElem hj]; rfl) n hn)
      obtain ⟨z0, q0, _, _⟩ := DataW.trod_int h0 g0
      obtain ⟨z1, q1, _, _⟩ := DataW.trod_int h1 g1
      obtain ⟨s2, rfl, hs2⟩ := open_ser h2 g2 (hwf 2 f2 e2 (by omega))
      obtain ⟨z3, q3, _, _⟩ := DataW.trod_int h3 g3
      obtain ⟨z4, q4, _, _⟩ := DataW.trod_int h4' g4
      obtain rfl := (List.cons.inj q0).1
      obtain rfl := (List.cons.inj q1).1
      obtain rfl := (List.cons.inj q3).1
      obtain rfl := (List.cons.inj q4).1
      exact ⟨⟨z0, z1, s2, z3, z4⟩, h4, hs2⟩)
    refine ⟨some a, (List.range len).map f, cap, by rw [(List.cons.inj hcs).1]; simp, by simpa using hl, hm, at_of_cells fun j hj => ?_, ?_⟩
    · rw [flat_len confL 5 (fun _ => rfl), List.length_map, List.length_range] at hj
      rw [flat_get confL 5 (by omega) (fun _ => rfl), List.getElem?_map, List.getElem?_range (by omega)]
      have hji : j / 5 < len := by omega
      have := (World.cells?_some (hf (j / 5) hji).1).2.2 (j % 5) (by omega)
      rw [add_add, show j / 5 * 5 + j % 5 = j by omega] at this
      exact this
    · intro x hx
      simp only [List.mem_map, List.mem_range] at hx
      obtain ⟨i, hi, rfl⟩ := hx
      exact (hf i hi).2
end
end Go.Proofs.YtfhpaehfihnjaaaGreat
