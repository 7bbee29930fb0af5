/- DFrame, DArgs, DDisk, DMap. -/
import Derived.Test.YtfhpaehfihnjaaaGreatRows
import Derived.Test.YtfhpaehfihnjaaaGreatKitA
import Derived.ProofKit
import Derived.OpenShut
import Derived.ShutString
import Derived.ChangeOld
import Derived.Test.YtfhpaehfihnjaaaGreatDA
import Derived.Deep.Fields
import Derived.Deep.Slices
import Derived.Test.YtfhpaehfihnjaaaGreatDC
import Derived.BigQuiet
import Derived.ChangeMaps4
import Derived.Maps.OwnOps
set_option maxRecDepth 100000
namespace Go.Proofs.YtfhpaehfihnjaaaGreat.D
open Go.ChangeShapes Go.WideShapes Go.ChangeAt Go.RowKit
theorem own : ownKnob Tryz.prog.godebug = none := by kernel_rfl
theorem laidOut : laidOutB Tryz.prog = true := by kernel_rfl
theorem u8_of_wf {n : Int} (h : (Lit.int .u8 n).wf = true) : ∃ c : UInt8, n = (c.toNat : Int) := by
  have hb := bounds_u8 h
  refine ⟨UInt8.ofNat n.toNat, ?_⟩
  rw [UInt8.toNat_ofNat']
  omega
theorem bytes_of_nums : ∀ (zs : List Int), (∀ n ∈ zs, (Lit.int .u8 n).wf = true) → ∃ l : List UInt8, zs.map (Value.int .u8) = Lib.byteCells l
  | [], _ => ⟨[], rfl⟩
  | z :: zs, h => by
    obtain ⟨c, hc⟩ := u8_of_wf (h z (by simp))
    obtain ⟨l, hl⟩ := bytes_of_nums zs (fun n hn => h n (by simp [hn]))
    exact ⟨c :: l, by rw [List.map_cons, hl, hc]; rfl⟩
theorem open_bytes {H : Type} {enc : TypeId × Value → H} {P : Program} {w : World} {base : Nat} {spare : Nat → Bool} {held : Bool} {fuel : Nat} {t e : TypeId} {x : DataW H × List MemPlace} {a : Option Addr} {len cap : Nat}
    (ht : P.underlying t = some (.slice e)) (he : P.underlying e = some (.int .u8)) (hc : P.cellsOf e = 1) (h : DataW.trod enc P w base spare held fuel t [.slice a len cap] = some x) :
    ∃ l : List UInt8, len = l.length ∧ len ≤ cap ∧ cap ≤ maxLen ∧ At w w.heap.size a (Lib.byteCells l) := by
  rcases open_ints ht he hc h with ⟨hcs, _⟩ | ⟨y, l, c, zs, hcs, _, hl, hm, hz, _, hcell, hwz⟩
  · simp at hcs
    obtain ⟨rfl, rfl, rfl⟩ := hcs
    exact ⟨[], rfl, Nat.le_refl _, Nat.zero_le _, At.nil_⟩
  · simp at hcs
    obtain ⟨rfl, rfl, rfl⟩ := hcs
    have hzl : len ≤ zs.length := by rw [hz]; split <;> omega
    obtain ⟨l, hbl⟩ := bytes_of_nums (zs.take len) (fun n hn => hwz n (List.mem_of_mem_take hn))
    have hll : len = l.length := by
      have := congrArg List.length hbl
      rw [byteCells_len, List.length_map, List.length_take] at this
      omega
    refine ⟨l, hll, hl, hm, fun hne => ?_⟩
    have hpos : 0 < len := by
      rcases Nat.eq_zero_or_pos len with h0 | h0
      · exact absurd (List.eq_nil_of_length_eq_zero (by rw [byteCells_len]; omega)) hne
      · exact h0
    have h0 := hcell 0 (by omega)
    have hspot : y.spot = none := World.cell?_spot (a := y) (by simpa [Addr.add] using h0)
    obtain ⟨b, off, spot⟩ := y
    have hspot' : spot = none := hspot
    subst hspot'
    refine ⟨b, off, rfl, World.block_lt_of_cell? w ⟨b, off, none⟩ (by simpa [Addr.add] using h0), fun j u hu => ?_⟩
    rw [← hbl, List.getElem?_map, List.getElem?_take] at hu
    split at hu
    · rename_i hj
      have hc1 := hcell j (by omega)
      rw [add_none] at hc1
      rw [hc1, ← hu, List.getD_eq_getElem?_getD, List.getElem?_eq_getElem (by omega)]
      rfl
    · simp at hu
end Go.Proofs.YtfhpaehfihnjaaaGreat.D
namespace Go.Proofs.YtfhpaehfihnjaaaGreat.D
open Go.ChangeShapes Go.WideShapes Go.ChangeAt Go.RowKit Go.Deep
abbrev CardV := Option Addr × List UInt8 × Nat
def cardV (x : CardV) : Value := .slice x.1 x.2.1.length x.2.2
def CardV.good (w : World) (B : Nat) (x : CardV) : Prop := At w B x.1 (Lib.byteCells x.2.1) ∧ x.2.1.length ≤ x.2.2 ∧ x.2.2 ≤ maxLen
theorem CardV.good.below {w w' : World} {B : Nat} {x : CardV} (h : CardV.good w B x) (hb : Below B w w') : CardV.good w' B x := ⟨h.1.below hb, h.2⟩
structure RecVA where
  r : Int
  key : CardV
  data : CardV
  bad : Bool
def RecVA.rc (b : RecVA) : Rec := ⟨b.r, b.key.2.1, b.data.2.1, b.bad⟩
def recVCells (b : RecVA) : List Value := [.int .i64 b.r, cardV b.key, cardV b.data, .bool b.bad]
instance : Inhabited RecVA := ⟨⟨0, (none, [], 0), (none, [], 0), false⟩⟩
theorem at_of_cells {w : World} {y : Addr} {us : List Value} (h : ∀ j, j < us.length → w.cell? (y.add j) = us[j]?) : At w w.heap.size (some y) us := by
  intro hne
  have hpos : 0 < us.length := List.length_pos_iff.2 hne
  have h0 := h 0 hpos
  rw [List.getElem?_eq_getElem hpos] at h0
  have hspot : y.spot = none := World.cell?_spot (a := y) (by simpa [Addr.add] using h0)
  obtain ⟨b, off, spot⟩ := y
  have hspot' : spot = none := hspot
  subst hspot'
  refine ⟨b, off, rfl, World.block_lt_of_cell? w ⟨b, off, none⟩ (by simpa [Addr.add] using h0), fun j u hu => ?_⟩
  have hj : j < us.length := (List.getElem?_eq_some_iff.1 hu).1
  have := h j hj
  rw [add_none] at this
  rw [this, hu]
section
variable {H : Type} {enc : TypeId × Value → H} {P : Program} {w : World} {base : Nat} {spare : Nat → Bool} {held : Bool}
theorem open_card {fuel : Nat} {t e : TypeId} {v : Value} {x : DataW H × List MemPlace} (ht : P.underlying t = some (.slice e)) (he : P.underlying e = some (.int .u8)) (hc : P.cellsOf e = 1) (h : DataW.trod enc P w base spare held fuel t [v] = some x) :
    ∃ c : CardV, v = cardV c ∧ CardV.good w w.heap.size c := by
  have hv : ∃ a len cap, v = .slice a len cap := by
    rcases open_slice1 ht hc h with ⟨hcs, _⟩ | ⟨a, len, cap, _, _, _, _, _, hcs, _⟩
    · exact ⟨_, _, _, (List.cons.inj hcs).1⟩
    · exact ⟨_, _, _, (List.cons.inj hcs).1⟩
  obtain ⟨a, len, cap, rfl⟩ := hv
  obtain ⟨l, rfl, h1, h2, h3⟩ := open_bytes ht he hc h
  exact ⟨(a, l, cap), rfl, h3, h1, h2⟩
theorem open_cards {fuel : Nat} {t e b : TypeId} {v : Value} {x : DataW H × List MemPlace} (ht : P.underlying t = some (.slice e)) (hce : P.cellsOf e = 1) (he : P.underlying e = some (.slice b)) (hb : P.underlying b = some (.int .u8)) (hcb : P.cellsOf b = 1)
    (h : DataW.trod enc P w base spare held fuel t [v] = some x) :
    ∃ (a : Option Addr) (xs : List CardV) (cap : Nat), v = .slice a xs.length cap ∧ xs.length ≤ cap ∧ cap ≤ maxLen ∧ At w w.heap.size a (xs.map cardV) ∧ ∀ x ∈ xs, CardV.good w w.heap.size x := by
  rcases open_slice1 ht hce h with ⟨hcs, _⟩ | ⟨a, len, cap, m, n, V, D, Pl, hcs, _, hl, hm, hmm, _, hx⟩
  · exact ⟨none, [], 0, (List.cons.inj hcs).1, Nat.le_refl _, Nat.zero_le _, At.nil_, by simp⟩
  · have hlm : len ≤ m := by rw [hmm]; split <;> omega
    obtain ⟨f, hf⟩ := choose_lt (α := CardV) (n := len) (p := fun i c => V i = cardV c ∧ CardV.good w w.heap.size c) (fun i hi => by
      obtain ⟨_, h2⟩ := hx i (by omega)
      exact open_card he hb hcb h2)
    refine ⟨some a, (List.range len).map f, cap, by rw [(List.cons.inj hcs).1]; simp, by simpa using hl, hm, at_of_cells fun j hj => ?_, ?_⟩
    · simp only [List.length_map, List.length_range] at hj
      rw [(hx j (by omega)).1, (hf j hj).1]
      simp [hj]
    · intro x hx
      simp only [List.mem_map, List.mem_range] at hx
      obtain ⟨i, hi, rfl⟩ := hx
      exact (hf i hi).2
theorem list_3 {α : Type} {l : List α} (h : l.length = 3) : ∃ a b c, l = [a, b, c] := by
  match l, h with
  | [a, b, c], _ => exact ⟨a, b, c, rfl⟩
theorem list_4 {α : Type} {l : List α} (h : l.length = 4) : ∃ a b c d, l = [a, b, c, d] := by
  match l, h with
  | [a, b, c, d], _ => exact ⟨a, b, c, d, rfl⟩
theorem flat_get {α : Type} (f : α → List Value) (k : Nat) (hk : 0 < k) (hf : ∀ a, (f a).length = k) : ∀ (l : List α) (j : Nat), (l.flatMap f)[j]? = (l[j / k]?).bind fun a => (f a)[j % k]?
  | [], j => by simp
  | x :: l, j => by
    rw [List.flatMap_cons]
    by_cases hj : j < k
    · rw [List.getElem?_append_left (by rw [hf]; exact hj), Nat.div_eq_of_lt hj, Nat.mod_eq_of_lt hj]; rfl
    · rw [List.getElem?_append_right (by rw [hf]; omega), flat_get f k hk hf l, hf]
      obtain ⟨i, rfl⟩ : ∃ i, j = i + k := ⟨j - k, by omega⟩
      rw [Nat.add_sub_cancel, Nat.add_div_right _ hk, Nat.add_mod_right]
      rfl
theorem flat_len {α : Type} (f : α → List Value) (k : Nat) (hf : ∀ a, (f a).length = k) : ∀ l : List α, (l.flatMap f).length = l.length * k
  | [] => by simp
  | x :: l => by rw [List.flatMap_cons, List.length_append, hf, flat_len f k hf l, List.length_cons, Nat.add_mul]; omega
theorem open_recs {fuel : Nat} {t e : TypeId} {fs : Array Field} {t0 t1 t2 t3 tb : TypeId} {v : Value} {x : DataW H × List MemPlace} (ht : P.underlying t = some (.slice e)) (he : P.underlying e = some (.struct fs)) (hc : P.cellsOf e = 4) (hone : oneCellFields P fs = true)
    (hf0 : ∃ f, fs[0]? = some f ∧ f.type = t0) (hf1 : ∃ f, fs[1]? = some f ∧ f.type = t1) (hf2 : ∃ f, fs[2]? = some f ∧ f.type = t2) (hf3 : ∃ f, fs[3]? = some f ∧ f.type = t3)
    (h0 : P.underlying t0 = some (.int .i64)) (h1 : P.underlying t1 = some (.slice tb)) (hb : P.underlying tb = some (.int .u8)) (hcb : P.cellsOf tb = 1) (h2 : P.underlying t2 = some (.slice tb)) (h3 : P.underlying t3 = some .bool)
    (h : DataW.trod enc P w base spare held fuel t [v] = some x) :
    ∃ (a : Option Addr) (bs : List Rec) (cap : Nat), v = .slice a bs.length cap ∧ bs.length ≤ cap ∧ cap ≤ maxLen ∧ RecsAt w a bs := by
  rcases open_slice ht h with ⟨hcs, _⟩ | ⟨a, len, cap, m, n, D, Pl, hcs, _, hl, hm, hmm, _, hx⟩
  · exact ⟨none, [], 0, (List.cons.inj hcs).1, Nat.le_refl _, Nat.zero_le _, fun i b hb => by simp at hb⟩
  · have hlm : len ≤ m := by rw [hmm]; split <;> omega
    rw [hc] at hx
    obtain ⟨f, hf⟩ := choose_lt (α := RecVA) (n := len) (p := fun i c => w.cells? base (a.add (i * 4)) 4 = some (recVCells c) ∧ CardV.good w w.heap.size c.key ∧ CardV.good w w.heap.size c.data) (fun i hi => by
      obtain ⟨cs', h4, h5⟩ := hx i (by omega)
      obtain ⟨xs, n', _, _, hcl, hlen, hg⟩ := DataW.trod_struct he h5
      rw [hc] at hcl
      obtain ⟨u0, u1, u2, u3, rfl⟩ := list_4 hcl
      obtain ⟨f0, e0, rfl⟩ := hf0
      obtain ⟨f1, e1, rfl⟩ := hf1
      obtain ⟨f2, e2, rfl⟩ := hf2
      obtain ⟨f3, e3, rfl⟩ := hf3
      have hfs : 4 ≤ fs.size := (Array.getElem?_eq_some_iff.1 e3).1
      have g0 := hg 0 f0 e0
      have g1 := hg 1 f1 e1
      have g2 := hg 2 f2 e2
      have g3 := hg 3 f3 e3
      rw [(hone_of hone 0 f0 e0).1, (hone_of hone 0 f0 e0).2, List.getElem?_eq_getElem (by omega)] at g0
      rw [(hone_of hone 1 f1 e1).1, (hone_of hone 1 f1 e1).2, List.getElem?_eq_getElem (by omega)] at g1
      rw [(hone_of hone 2 f2 e2).1, (hone_of hone 2 f2 e2).2, List.getElem?_eq_getElem (by omega)] at g2
      rw [(hone_of hone 3 f3 e3).1, (hone_of hone 3 f3 e3).2, List.getElem?_eq_getElem (by omega)] at g3
      simp only [List.drop_zero, List.drop_succ_cons, List.take_succ_cons, List.take_zero] at g0 g1 g2 g3
      obtain ⟨z0, q0, _, _⟩ := DataW.trod_int h0 g0
      obtain ⟨c1, rfl, G1⟩ := open_card h1 hb hcb g1
      obtain ⟨c2, rfl, G2⟩ := open_card h2 hb hcb g2
      obtain ⟨z3, q3, _⟩ := DataW.trod_bool h3 g3
      obtain rfl := (List.cons.inj q0).1
      obtain rfl := (List.cons.inj q3).1
      exact ⟨⟨z0, c1, c2, z3⟩, h4, G1, G2⟩)
    refine ⟨some a, ((List.range len).map f).map RecVA.rc, cap, by rw [(List.cons.inj hcs).1]; simp, by simpa using hl, hm, ?_⟩
    intro i b hb
    rw [List.getElem?_map, List.getElem?_map] at hb
    by_cases hi : i < len
    · rw [List.getElem?_range hi] at hb
      simp only [Option.map_some, Option.some.injEq] at hb
      subst hb
      obtain ⟨h4, G1, G2⟩ := hf i hi
      have c0 := (World.cells?_some h4).2.2 0 (by omega)
      have c1 := (World.cells?_some h4).2.2 1 (by omega)
      have c2 := (World.cells?_some h4).2.2 2 (by omega)
      have c3 := (World.cells?_some h4).2.2 3 (by omega)
      have hspot : a.spot = none := by
        have d0 := (World.cells?_some (hf 0 (by omega)).1).2.2 0 (by omega)
        exact World.cell?_spot (v := .int .i64 (f 0).r) (a := a) (by simpa [Addr.add, recVCells] using d0)
      obtain ⟨g, off, spot⟩ := a
      have hspot' : spot = none := hspot
      subst hspot'
      rw [add_add, add_none] at c0 c1 c2 c3
      exact ⟨g, off, _, _, _, _, rfl, c0, c1, c2, c3, G1, G2⟩
    · rw [List.getElem?_eq_none (by simpa using hi)] at hb
      cases hb
theorem open_bools {fuel : Nat} {t e : TypeId} {v : Value} {x : DataW H × List MemPlace} (ht : P.underlying t = some (.slice e)) (hce : P.cellsOf e = 1) (he : P.underlying e = some .bool)
    (h : DataW.trod enc P w base spare held fuel t [v] = some x) :
    ∃ (a : Option Addr) (xs : List Bool) (cap : Nat), v = .slice a xs.length cap ∧ xs.length ≤ cap ∧ cap ≤ maxLen ∧ At w w.heap.size a (xs.map Value.bool) := by
  rcases open_slice1 ht hce h with ⟨hcs, _⟩ | ⟨a, len, cap, m, n, V, D, Pl, hcs, _, hl, hm, hmm, _, hx⟩
  · exact ⟨none, [], 0, (List.cons.inj hcs).1, Nat.le_refl _, Nat.zero_le _, At.nil_⟩
  · have hlm : len ≤ m := by rw [hmm]; split <;> omega
    obtain ⟨f, hf⟩ := choose_lt (α := Bool) (n := len) (p := fun i c => V i = .bool c) (fun i hi => by
      obtain ⟨_, h2⟩ := hx i (by omega)
      obtain ⟨z, q, _⟩ := DataW.trod_bool he h2
      exact ⟨z, (List.cons.inj q).1⟩)
    refine ⟨some a, (List.range len).map f, cap, by rw [(List.cons.inj hcs).1]; simp, by simpa using hl, hm, at_of_cells fun j hj => ?_⟩
    simp only [List.length_map, List.length_range] at hj
    rw [(hx j (by omega)).1, hf j hj]
    simp [hj]
end
end Go.Proofs.YtfhpaehfihnjaaaGreat.D
namespace Go.Proofs.YtfhpaehfihnjaaaGreat.D
open Go.RowKit
theorem recsB_row {W : World} {F : List SA} {A : Option Addr} {n c : Nat} {ps : List RV} (hv : ∀ p ∈ ps, RecV W p) : RecsB W (rowS 188 4 (.slice A n c) n (ps.flatMap recCells) :: F) A (ps.map Prod.snd) := fun w S i x hx => by
  rw [List.getElem?_map] at hx
  cases hp : ps[i]? with
  | none => rw [hp] at hx; cases hx
  | some p =>
    rw [hp] at hx; injection hx with hx; subst hx
    have hc := fun k (hk : k < 4) => recCells_get ps i k p hp hk
    obtain ⟨g, hA, _, c0⟩ := S.cellAt (j := i * 4 + 0) (u := .int .i64 p.2.r) (by rw [hc 0 (by omega)]; rfl)
    obtain ⟨g1, hA1, _, c1⟩ := S.cellAt (j := i * 4 + 1) (u := p.1.1) (by rw [hc 1 (by omega)]; rfl)
    obtain ⟨g2, hA2, _, c2⟩ := S.cellAt (j := i * 4 + 2) (u := p.1.2) (by rw [hc 2 (by omega)]; rfl)
    obtain ⟨g3, hA3, _, c3⟩ := S.cellAt (j := i * 4 + 3) (u := .bool p.2.bad) (by rw [hc 3 (by omega)]; rfl)
    rw [hA] at hA1 hA2 hA3
    injection hA1 with hA1; injection hA1 with hA1; subst hA1
    injection hA2 with hA2; injection hA2 with hA2; subst hA2
    injection hA3 with hA3; injection hA3 with hA3; subst hA3
    obtain ⟨Ak, ck, Ad, cd, e, h1, h2⟩ := hv p (List.mem_iff_getElem?.2 ⟨i, hp⟩)
    rw [e] at c1 c2
    have e0 : ∀ k, (0 : Nat) + i * 4 + k = i * 4 + k := fun k => by omega
    exact ⟨g, 0, Ak, ck, Ad, cd, hA, by rw [show (0 : Nat) + i * 4 = i * 4 + 0 by omega]; exact c0, by rw [e0]; exact c1, by rw [e0]; exact c2, by rw [e0]; exact c3, h1, h2⟩
theorem fewL_fit (l : List Rec) (x : Rec) (hx : x.key.length ≤ 300 ∧ x.data.length ≤ 2100) : Fit (fewL l ++ [x]) := ⟨by simp [fewL]; omega, fun y hy => by
  rcases List.mem_append.1 hy with h | h
  · unfold fewL at h
    obtain ⟨z, _, rfl⟩ := List.mem_map.1 h
    simp [cutR]; omega
  · obtain rfl := List.mem_singleton.1 h
    omega⟩
theorem trackL_ok (l : List Rec) : TrackOk (trackS (l.take 40)) (l.take 40).length := by
  have h := trackOk (l.take 40) (l.take 40).length (Nat.le_refl _)
  rw [List.take_of_length_le (Nat.le_refl _)] at h
  exact h
theorem trackL_len (l : List Rec) : (trackL l).length ≤ 40 := by
  have h := (trackL_ok l).len
  have h2 : (l.take 40).length ≤ 40 := by rw [List.length_take]; omega
  exact Nat.le_trans h h2
theorem trackL_valid (l : List Rec) : validB (trackL l) = true := (trackL_ok l).valid
theorem trackL_size (l : List Rec) : ∀ x ∈ trackL l, x.key.length ≤ 255 ∧ x.data.length ≤ 2016 := (trackL_ok l).size
theorem trackL_fit (l : List Rec) (x : Rec) (hx : x.key.length ≤ 300 ∧ x.data.length ≤ 2100) : Fit (trackL l ++ [x]) := ⟨by have := trackL_len l; simp; omega, fun y hy => by
  rcases List.mem_append.1 hy with h | h
  · have := trackL_size l y h; omega
  · obtain rfl := List.mem_singleton.1 h; omega⟩
theorem cutR_len (x : Rec) : (cutR 300 2100 x).key.length ≤ 300 ∧ (cutR 300 2100 x).data.length ≤ 2100 := by simp [cutR]; omega
section
variable {W w : World} {F : List SA}
end
end Go.Proofs.YtfhpaehfihnjaaaGreat.D
namespace Go.Proofs.YtfhpaehfihnjaaaGreat.D
open Go.RowKit
def nb (x : Rec) : Rec := ⟨x.r, x.key, x.data, false⟩
theorem okAt_nb (t : List Rec) (j : Nat) : okAt (t.map nb) j = okAt t j := by
  unfold okAt
  rw [List.getElem?_map]
  cases t[j]? with
  | none => rfl
  | some x =>
    cases j with
    | zero => rfl
    | succ i =>
      simp only [Option.map_some, List.getElem?_map]
      cases t[i]? <;> rfl
theorem used_nb (t : List Rec) : usedN (t.map nb) = usedN t := by
  unfold usedN
  rw [List.map_map]; rfl
theorem valid_nb (t : List Rec) : validB (t.map nb) = validB t := by
  unfold validB ordB
  rw [List.length_map, used_nb, show okAt (t.map nb) = okAt t from funext (okAt_nb t)]
theorem any_nb (t : List Rec) : (t.map nb).any Rec.bad = false := List.any_eq_false.2 fun x hx => by
  obtain ⟨y, _, rfl⟩ := List.mem_map.1 hx
  simp [nb]
theorem enc_nb {t : List Rec} {c h : Nat} (hv : validB t = true) (hc : c ≤ 65535) (hh : h ≤ 65535) : encE c h (t.map nb) = 0 ∧ encB c h (t.map nb) = encL c h (t.map nb) ++ ff8 := by
  have e : encE c h (t.map nb) = 0 := by
    unfold encE
    rw [if_pos ⟨by omega, by omega, by omega, by omega⟩, valid_nb, hv, any_nb]; rfl
  exact ⟨e, by unfold encB; rw [e, if_pos rfl]; simp⟩
theorem cell_bad {ps : List RV} {i n : Nat} {p : RV} {cur : Array Value} (q : Bool) (hp : ps[i]? = some p) (hn : ps.length = n) (hi : i < n) (hs : n * 4 ≤ cur.size) (h : cur.toList.take (n * 4) = ps.flatMap recCells) :
    (cur.setIfInBounds (i * 4 + 3) (.bool q)).toList.take (n * 4) = (ps.set i (p.1, ⟨p.2.r, p.2.key, p.2.data, q⟩)).flatMap recCells := by
  have hlen : ∀ l : List RV, (l.flatMap recCells).length = l.length * 4 := fun l => by
    induction l with
    | nil => rfl
    | cons a l ih => simp only [List.flatMap_cons, List.length_append, ih, List.length_cons, recCells]; simp; omega
  refine List.ext_getElem? fun j => ?_
  by_cases hj : j < n * 4
  · obtain ⟨k, r, hr, rfl⟩ : ∃ k r, r < 4 ∧ j = k * 4 + r := ⟨j / 4, j % 4, Nat.mod_lt _ (by omega), by omega⟩
    have hq : k < n := by omega
    have hold : cur[k * 4 + r]? = (recCells (ps[k]'(by omega)))[r]? := by
      have h2 := congrArg (fun l => l[k * 4 + r]?) h
      simp only [List.getElem?_take, if_pos hj, Array.getElem?_toList] at h2
      rw [h2, recCells_get ps k r ps[k] (by simp) hr]
    rw [List.getElem?_take, if_pos hj]
    simp only [Array.getElem?_toList, Array.getElem?_setIfInBounds]
    by_cases e : i = k
    · subst e
      have hpe : ps[i] = p := by rw [List.getElem?_eq_getElem (by omega)] at hp; injection hp
      have hnew : (ps.set i (p.1, ⟨p.2.r, p.2.key, p.2.data, q⟩))[i]? = some (p.1, ⟨p.2.r, p.2.key, p.2.data, q⟩) := by rw [List.getElem?_set, if_pos rfl, if_pos (by omega)]
      rw [recCells_get _ i r _ hnew hr]
      rw [hpe] at hold
      have h4 : r = 0 ∨ r = 1 ∨ r = 2 ∨ r = 3 := by omega
      rcases h4 with rfl | rfl | rfl | rfl
      · rw [if_neg (by omega), hold]; rfl
      · rw [if_neg (by omega), hold]; rfl
      · rw [if_neg (by omega), hold]; rfl
      · rw [if_pos (by omega), if_pos (by omega)]; rfl
    · have hnew : (ps.set i (p.1, ⟨p.2.r, p.2.key, p.2.data, q⟩))[k]? = some (ps[k]'(by omega)) := by
        rw [List.getElem?_set, if_neg e, List.getElem?_eq_getElem]
      rw [recCells_get _ k r _ hnew hr, if_neg (by omega)]
      exact hold
  · rw [List.getElem?_eq_none (by rw [List.length_take]; omega), List.getElem?_eq_none (by rw [hlen, List.length_set]; omega)]
section
variable {W w : World} {F : List SA}
theorem recs_bad {A : Option Addr} {n c i : Nat} {rs : List Rec} {x : Rec} (hx : rs[i]? = some x) (S : SL W (recsS (.slice A n c) rs :: F) w) : ∃ g, A = some ⟨g, 0, none⟩ ∧ w.cell? ⟨g, i * 4 + 3, none⟩ = some (.bool x.bad) ∧ w.frozen? ⟨g, i * 4 + 3, none⟩ = false ∧
    ∀ q, SL W (recsS (.slice A n c) (rs.set i ⟨x.r, x.key, x.data, q⟩) :: F) (w.setCell ⟨g, i * 4 + 3, none⟩ (.bool q)) := by
  obtain ⟨ps, rfl, S1⟩ := recsS_open S
  obtain ⟨A', c', e, _, _⟩ := own_slice S1.own
  injection e with e1 e2 e3
  subst e1; subst e2; subst e3
  rw [List.getElem?_map] at hx
  cases hp : ps[i]? with
  | none => rw [hp] at hx; cases hx
  | some p =>
    rw [hp] at hx; injection hx with hx; subst hx
    have hi : i < ps.length := (List.getElem?_eq_some_iff.1 hp).1
    obtain ⟨y, cap, cur, hv, h1, h2, h3, h4, S2⟩ := S1.rowCel (by omega)
    injection hv with ha _ hc
    subst ha; subst hc
    obtain ⟨L, K, z⟩ := S2.look
    refine ⟨y, rfl, ?_, K _, fun q => ?_⟩
    · rw [L]
      have h5 := congrArg (fun l => l[i * 4 + 3]?) h4
      simp only [List.getElem?_take, if_pos (show i * 4 + 3 < ps.length * 4 by omega), Array.getElem?_toList] at h5
      rw [h5, recCells_get ps i 3 p hp (by omega)]; rfl
    · have S3 := SL.head (S2.set (off := i * 4 + 3) (v := .bool q) rfl) (rowS_pts (n := ps.length) (size := 4) h1 h2 (by simp [h3]) (cell_bad q hp rfl hi (by rw [h3]; exact Nat.mul_le_mul_right _ h1) h4))
      refine recsS_close' (n := ps.length) (ps := ps.set i (p.1, ⟨p.2.r, p.2.key, p.2.data, q⟩)) (by simp) (by rw [List.map_set]) ?_
      have hst : (ps.set i (p.1, (⟨p.2.r, p.2.key, p.2.data, q⟩ : Rec))).map recO = ps.map recO := by
        rw [List.map_set]
        have e : recO (p.1, (⟨p.2.r, p.2.key, p.2.data, q⟩ : Rec)) = recO p := rfl
        rw [e]
        refine List.ext_getElem? fun j => ?_
        rw [List.getElem?_set]
        split
        · rename_i hij; subst hij
          rw [List.getElem?_map, hp]
          simp [hi]
        · rfl
      rw [hst]
      exact S3
theorem row_set {e : TypeId} {A : Option Addr} {n c j : Nat} {xs : List Value} (hj : j < n) (S : SL W (rowS e 1 (.slice A n c) n xs :: F) w) : ∃ g u, A = some ⟨g, 0, none⟩ ∧ xs[j]? = some u ∧ w.cell? ⟨g, j, none⟩ = some u ∧ w.frozen? ⟨g, j, none⟩ = false ∧ g < w.heap.size ∧
    ∀ v, SL W (rowS e 1 (.slice A n c) n (xs.set j v) :: F) (w.setCell ⟨g, j, none⟩ v) := by
  have hxl : xs.length = n := by have := S.own.1; omega
  obtain ⟨y, cap, cur, hv, h1, h2, h3, h4, S2⟩ := S.rowCel (by omega)
  injection hv with ha _ hc
  subst ha; subst hc
  obtain ⟨L, K, z⟩ := S2.look
  have hx : xs[j]? = some (xs[j]'(by omega)) := List.getElem?_eq_getElem (by omega)
  refine ⟨y, xs[j]'(by omega), rfl, hx, ?_, K _, z, fun v => ?_⟩
  · rw [L, ← hx, ← h4, List.getElem?_take, if_pos (by omega), Array.getElem?_toList]
  · refine SL.head (S2.set (off := j) (v := v) rfl) (rowS_pts (n := n) (size := 1) h1 h2 (by simp [h3]) ?_)
    rw [← h4]
    refine List.ext_getElem? fun i => ?_
    rw [List.getElem?_take, List.getElem?_set, Array.getElem?_toList, Array.getElem?_setIfInBounds, List.length_take, Array.length_toList, List.getElem?_take, Array.getElem?_toList]
    by_cases hi : i < n * 1
    · rw [if_pos hi, if_pos hi]
      by_cases e : j = i
      · rw [if_pos e, if_pos e, if_pos (by omega), if_pos (by omega)]
      · rw [if_neg e, if_neg e]
    · rw [if_neg hi, if_neg hi, if_neg (by omega)]
theorem byteCells_set (l : List UInt8) (j : Nat) (x : UInt8) : (Lib.byteCells l).set j (.int .u8 (x.toNat : Int)) = Lib.byteCells (l.set j x) := by
  simp [Lib.byteCells, List.map_set]
theorem nb_step {t : List Rec} {k : Nat} {x : Rec} (hx : t[k]? = some x) : ((t.take k).map nb ++ t.drop k)[k]? = some x ∧ ((t.take k).map nb ++ t.drop k).set k (nb x) = (t.take (k + 1)).map nb ++ t.drop (k + 1) := by
  have hk := (List.getElem?_eq_some_iff.1 hx).1
  have hl : ((t.take k).map nb).length = k := by rw [List.length_map, List.length_take]; omega
  constructor
  · rw [List.getElem?_append_right (by omega), hl, Nat.sub_self, List.getElem?_drop, Nat.add_zero]; exact hx
  · rw [List.set_append_right _ _ (by omega), hl, Nat.sub_self, List.take_add_one, hx]
    have e : t.drop k = x :: t.drop (k + 1) := by
      rw [List.drop_eq_getElem_cons hk]
      have : t[k] = x := by rw [List.getElem?_eq_getElem hk] at hx; injection hx
      rw [this]
    rw [e]
    simp
end
end Go.Proofs.YtfhpaehfihnjaaaGreat.D
namespace Go.Proofs.YtfhpaehfihnjaaaGreat.D
open Go.RowKit
theorem asc_of {rs : List Rec} (h : ∀ j, j < rs.length → okAt rs j = true) : ∀ (d i : Nat) (x y : Rec), rs[i]? = some x → rs[i + d + 1]? = some y → x.r < y.r
  | 0, i, x, y, hx, hy => by
    have h1 := h (i + 1) (List.getElem?_eq_some_iff.1 hy).1
    rw [okAt_succ hy hx, Bool.and_eq_true, decide_eq_true_eq] at h1
    exact h1.2
  | d + 1, i, x, y, hx, hy => by
    have hl := (List.getElem?_eq_some_iff.1 hy).1
    have hz : rs[i + d + 1]? = some (rs[i + d + 1]'(by omega)) := List.getElem?_eq_getElem (by omega)
    have h1 := asc_of h d i x _ hx hz
    have h2 := h (i + d + 1 + 1) (by omega)
    rw [okAt_succ (show rs[i + d + 1 + 1]? = some y from hy) hz, Bool.and_eq_true, decide_eq_true_eq] at h2
    omega
theorem asc_pw {rs : List Rec} (h : ∀ j, j < rs.length → okAt rs j = true) : rs.Pairwise fun a b => a.r < b.r := by
  rw [List.pairwise_iff_getElem]
  intro i j hi hj hij
  exact asc_of h (j - i - 1) i _ _ (List.getElem?_eq_getElem hi) (by rw [show i + (j - i - 1) + 1 = j by omega]; exact List.getElem?_eq_getElem hj)
theorem lower_pw {r : Int} : ∀ {rs : List Rec}, (rs.Pairwise fun a b => a.r < b.r) → ∃ m, m ≤ rs.length ∧ lower r rs = rs.take m
  | [], _ => ⟨0, Nat.le_refl _, rfl⟩
  | a :: l, h => by
    obtain ⟨h1, h2⟩ := List.pairwise_cons.1 h
    obtain ⟨m, hm, e⟩ := lower_pw (r := r) h2
    by_cases ha : a.r < r
    · refine ⟨m + 1, by simp; omega, ?_⟩
      have : lower r (a :: l) = a :: lower r l := by unfold lower; rw [List.filter_cons_of_pos (by simpa using ha)]
      rw [this, e, List.take_succ_cons]
    · refine ⟨0, Nat.zero_le _, ?_⟩
      unfold lower
      rw [List.take_zero, List.filter_eq_nil_iff]
      intro b hb
      rcases List.mem_cons.1 hb with rfl | hb
      · simpa using ha
      · have := h1 b hb
        simp only [decide_eq_true_eq]; omega
theorem okAt_take {rs : List Rec} {m j : Nat} (h : j < m) : okAt (rs.take m) j = okAt rs j := by
  unfold okAt
  rw [List.getElem?_take, if_pos h]
  cases rs[j]? with
  | none => rfl
  | some x =>
    cases j with
    | zero => rfl
    | succ i => simp only [List.getElem?_take, if_pos (show i < m by omega)]
theorem usedN_cut (rs : List Rec) (m : Nat) : usedN (rs.take m) ≤ usedN rs := by
  have h := usedN_app (rs.take m) (rs.drop m)
  rw [List.take_append_drop] at h
  omega
theorem valid_take {rs : List Rec} (hv : validB rs = true) (m : Nat) : validB (rs.take m) = true := by
  obtain ⟨h1, h2⟩ := validB_iff.1 hv
  refine validB_iff.2 ⟨fun j hj => ?_, Nat.le_trans (usedN_cut rs m) h2⟩
  rw [List.length_take] at hj
  rw [okAt_take (by omega)]
  exact h1 j (by omega)
theorem put_keeps {rs : List Rec} {x : Rec} (he : putE rs x = 0) : putR rs x = putN rs x ∧ validB (putN rs x) = true ∧ ∃ m, (putN rs x).length = m + 1 ∧ findN (putN rs x) x.r = some m ∧ (putN rs x)[m]? = some x ∧ ∀ j y, j ≠ m → (putN rs x)[j]? = some y → rs[j]? = some y := by
  have hR : putR rs x = putN rs x := by unfold putR; rw [if_pos he]
  unfold putE at he
  split at he
  · rename_i h
    rw [Bool.and_eq_true] at h
    split at he
    · cases he
    · rename_i hu
      obtain ⟨h1, _⟩ := validB_iff.1 h.1
      obtain ⟨m, hm, e⟩ := lower_pw (r := x.r) (asc_pw h1)
      have hlo : ∀ y ∈ lower x.r rs, y.r < x.r := fun y hy => by simpa [lower] using (List.mem_filter.1 hy).2
      have hll : (lower x.r rs).length = m := by rw [e, List.length_take]; omega
      refine ⟨hR, ?_, m, by simp [putN, hll], ?_, ?_, fun j y hj hy => ?_⟩
      · unfold putN at hu ⊢
        rw [fits_eq, h.2]
        have hv : validB (lower x.r rs) = true := by rw [e]; exact valid_take h.1 m
        rw [hv]
        rw [usedN_app] at hu
        have hc : usedN [x] = x.cost := by simp [usedN]
        cases hg : (lower x.r rs).getLast? with
        | none => simp; omega
        | some y =>
          have := hlo y (List.mem_of_getLast? hg)
          simp; omega
      · unfold putN findN
        rw [List.findIdx?_append]
        have hn : (lower x.r rs).findIdx? (fun y => decide (y.r = x.r)) = none := by
          rw [List.findIdx?_eq_none_iff]
          intro y hy
          have := hlo y hy
          simp; omega
        rw [hn]
        simp [hll]
      · unfold putN
        rw [List.getElem?_append_right (by omega), hll, Nat.sub_self]; rfl
      · unfold putN at hy
        have hl := (List.getElem?_eq_some_iff.1 hy).1
        rw [List.length_append, hll] at hl
        have hjm : j < m := by simp at hl; omega
        rw [List.getElem?_append_left (by omega), e, List.getElem?_take, if_pos hjm] at hy
        exact hy
  · cases he
def Rec.sh (x : Rec) : Int × Nat × Nat := (x.r, x.key.length, x.data.length)
theorem okAt_like {a b : List Rec} (h : a.map Rec.sh = b.map Rec.sh) (j : Nat) : okAt a j = okAt b j := by
  have hg : ∀ k : Nat, (a[k]?).map Rec.sh = (b[k]?).map Rec.sh := fun k => by rw [← List.getElem?_map, h, List.getElem?_map]
  unfold okAt
  have h1 := hg j
  cases ha : a[j]? with
  | none =>
    rw [ha] at h1
    cases hb : b[j]? with
    | none => rfl
    | some y => rw [hb] at h1; cases h1
  | some x =>
    rw [ha] at h1
    cases hb : b[j]? with
    | none => rw [hb] at h1; cases h1
    | some y =>
      rw [hb] at h1
      simp only [Option.map_some, Option.some.injEq, Rec.sh, Prod.mk.injEq] at h1
      obtain ⟨e1, e2, e3⟩ := h1
      have ev : x.valid = y.valid := by unfold Rec.valid; rw [e1, e2]
      dsimp only
      rw [ev]
      cases j with
      | zero => rfl
      | succ i =>
        have h2 := hg i
        dsimp only
        cases ha' : a[i]? with
        | none =>
          rw [ha'] at h2
          cases hb' : b[i]? with
          | none => rfl
          | some y => rw [hb'] at h2; cases h2
        | some x' =>
          rw [ha'] at h2
          cases hb' : b[i]? with
          | none => rw [hb'] at h2; cases h2
          | some y' =>
            rw [hb'] at h2
            simp only [Option.map_some, Option.some.injEq, Rec.sh, Prod.mk.injEq] at h2
            dsimp only
            rw [e1, h2.1]
theorem valid_like {a b : List Rec} (h : a.map Rec.sh = b.map Rec.sh) : validB a = validB b := by
  have hl : a.length = b.length := by simpa using congrArg List.length h
  have hu : usedN a = usedN b := by
    have e : ∀ l : List Rec, l.map Rec.cost = (l.map Rec.sh).map fun q => costN q.2.1 q.2.2 := fun l => by rw [List.map_map]; rfl
    unfold usedN
    rw [e, e, h]
  unfold validB ordB
  rw [hl, hu, show okAt a = okAt b from funext (okAt_like h)]
theorem find_like {a b : List Rec} (h : a.map Rec.sh = b.map Rec.sh) (n : Int) : findN a n = findN b n := by
  have e : ∀ l : List Rec, findN l n = (l.map Rec.sh).findIdx? fun q => decide (q.1 = n) := fun l => by unfold findN; rw [List.findIdx?_map]; rfl
  rw [e, e, h]
theorem rep_keeps {rs : List Rec} {x : Rec} (he : repE rs x = 0) : ∃ m, validB (repR rs x) = true ∧ (repR rs x).length = rs.length ∧ findN (repR rs x) x.r = some m ∧ (repR rs x)[m]? = some x ∧ ∀ j y, j ≠ m → (repR rs x)[j]? = some y → rs[j]? = some y := by
  have hR : repR rs x = rs.set ((findN rs x.r).getD 0) x := by unfold repR; rw [if_pos he]
  unfold repE at he
  split at he
  · rename_i hv
    split at he
    · cases he
    · rename_i i hi
      split at he
      · cases he
      · rename_i y hy
        split at he
        · rename_i hs
          have hl := (List.getElem?_eq_some_iff.1 hy).1
          have hyr : y.r = x.r := by
            have h := hi
            unfold findN at h
            obtain ⟨_, h2, _⟩ := List.findIdx?_eq_some_iff_getElem.1 h
            have h3 := (List.getElem?_eq_some_iff.1 hy).2
            rw [h3] at h2
            simpa using h2
          rw [hi] at hR
          simp only [Option.getD_some] at hR
          have hsh : (rs.set i x).map Rec.sh = rs.map Rec.sh := by
            rw [List.map_set]
            refine List.ext_getElem? fun j => ?_
            rw [List.getElem?_set]
            split
            · rename_i hij; subst hij
              rw [if_pos (by simpa using hl), List.getElem?_map, hy]
              simp only [Option.map_some, Rec.sh, hyr, hs.1, hs.2]
            · rfl
          rw [hR]
          refine ⟨i, by rw [valid_like hsh]; exact hv, List.length_set .., by rw [find_like hsh]; exact hi, by rw [List.getElem?_set, if_pos rfl, if_pos hl], fun j z hj hz => ?_⟩
          rw [List.getElem?_set, if_neg (Ne.symm hj)] at hz
          exact hz
        · cases he
  · cases he
end Go.Proofs.YtfhpaehfihnjaaaGreat.D
namespace Go.Proofs.YtfhpaehfihnjaaaGreat.D
open Go.RowKit
abbrev Rep := List UInt8 × Nat × Nat
structure DK where
  serial : ByteArray
  cyls : Nat
  heads : Nat
  cyl : Nat
  head : Nat
  next : Nat
  found : Bool
  sense : Nat
  tracks : List (List Rec)
  last : Option (Nat × List Rec × Int)
def DK.here (s : DK) : Nat := s.cyl * s.heads + s.head
def DK.recs (s : DK) : List Rec := s.tracks[s.here]?.getD []
def two (b : List UInt8) (i : Nat) : Nat := 256 * (b[i]?.getD 0).toNat + (b[i + 1]?.getD 0).toNat
def dkCheck (s : DK) (n : Nat) : DK × Rep := ({ s with sense := n }, [], 14, n)
def dkDone (s : DK) (l : List UInt8) : DK × Rep := (s, l, 12, 0)
def dkHit (s : DK) (i : Nat) : DK × Rep := ({ s with next := i, found := true }, [], 76, 0)
def dkSeek (s : DK) (b : List UInt8) : DK × Rep :=
  if b.length ≠ 6 ∨ two b 0 ≠ 0 ∨ s.cyls ≤ two b 2 ∨ s.heads ≤ two b 4 then dkCheck s 128 else dkDone { s with cyl := two b 2, head := two b 4, next := 0 } []
def dkID (s : DK) (b : List UInt8) (more : Int) : DK × Rep :=
  if b.length ≠ 5 then dkCheck s 128 else
  if two b 0 = s.cyl ∧ two b 2 = s.head then
    match s.recs.findIdx? (fun r => decide (0 ≤ r.r - ((b[4]?.getD 0).toNat : Int)) && decide (r.r - ((b[4]?.getD 0).toNat : Int) ≤ more)) with
    | some i => dkHit s i
    | none => dkCheck s 2
  else dkCheck s 2
def dkKey (s : DK) (b : List UInt8) (high : Bool) : DK × Rep :=
  if b.length < 1 ∨ 255 < b.length then dkCheck s 128 else
  match searchN s.recs 0 b high with
  | some i => dkHit s i
  | none => dkCheck s 2
def cntL (c h : Nat) (x : Rec) : List UInt8 := halfL c ++ halfL h ++ [UInt8.ofNat x.r.toNat, UInt8.ofNat x.key.length] ++ halfL x.data.length
def dkCount (s : DK) : DK × Rep :=
  match s.recs[s.next]? with
  | none => dkCheck s 2
  | some x => dkDone s (cntL s.cyl s.head x)
def dkRead (s : DK) (cnt key : Bool) : DK × Rep :=
  match s.recs[s.next]? with
  | none => dkCheck s 2
  | some x => if x.bad then dkCheck { s with next := s.next + 1 } 8
    else dkDone { s with next := s.next + 1 } ((if cnt then cntL s.cyl s.head x else []) ++ (if key then x.key else []) ++ x.data)
def dkTrack (s : DK) : DK × Rep :=
  if encE s.cyl s.head s.recs ≠ 0 then dkCheck { s with next := s.recs.length } 8 else dkDone { s with next := s.recs.length } (encB s.cyl s.head s.recs)
def dkChange (s : DK) (t : List Rec) (n : Int) : DK := { s with last := some (s.here, s.recs, n), tracks := s.tracks.set s.here t }
def padL (b : List UInt8) (n : Nat) : List UInt8 := b.take n ++ List.replicate (n - b.length) 0
def dkRewrite (s : DK) (x : Rec) : DK × Rep := dkDone { dkChange s (repR s.recs x) x.r with next := s.next + 1 } []
def dkWriteData (s : DK) (was : Bool) (b : List UInt8) : DK × Rep :=
  if was = false then dkCheck s 128 else
  match s.recs[s.next]? with
  | none => dkCheck s 128
  | some x => dkRewrite s ⟨x.r, x.key, padL b x.data.length, false⟩
def dkWriteKey (s : DK) (was : Bool) (b : List UInt8) : DK × Rep :=
  if was = false then dkCheck s 128 else
  match s.recs[s.next]? with
  | none => dkCheck s 128
  | some x => dkRewrite s ⟨x.r, (padL b (x.key.length + x.data.length)).take x.key.length, (padL b (x.key.length + x.data.length)).drop x.key.length, false⟩
def dkFormat (s : DK) (b : List UInt8) : DK × Rep :=
  if b.length < 8 ∨ two b 0 ≠ s.cyl ∨ two b 2 ≠ s.head ∨ (b[4]?.getD 0) = 0 then dkCheck s 128 else
  if b.length ≠ 8 + (b[5]?.getD 0).toNat + two b 6 then dkCheck s 128 else
  let x : Rec := ⟨((b[4]?.getD 0).toNat : Int), (b.drop 8).take (b[5]?.getD 0).toNat, b.drop (8 + (b[5]?.getD 0).toNat), false⟩
  if putE s.recs x ≠ 0 then dkCheck s 4 else dkDone { dkChange s (putR s.recs x) x.r with next := (putR s.recs x).length } []
def dkErase (s : DK) : DK × Rep := dkDone { dkChange s [] 0 with next := 0 } []
def dkCmd (s : DK) (was : Bool) (op : Int) (b : List UInt8) : DK × Rep :=
  if op = 7 then dkSeek s b
  else if op = 19 then dkDone { s with cyl := 0, head := 0, next := 0 } []
  else if op = 17 then dkErase s
  else if op = 49 then dkID s b 0
  else if op = 113 then dkID s b 255
  else if op = 41 then dkKey s b false
  else if op = 105 then dkKey s b true
  else if op = 18 then dkCount s
  else if op = 6 then dkRead s false false
  else if op = 14 then dkRead s false true
  else if op = 30 then dkRead s true true
  else if op = 222 then dkTrack s
  else if op = 5 then dkWriteData s was b
  else if op = 13 then dkWriteKey s was b
  else if op = 29 then dkFormat s b
  else dkCheck s 128
def dkDo (s : DK) (op : Int) (b : List UInt8) : DK × Rep :=
  if op = 3 then dkDone { s with last := none } []
  else if op = 4 then dkDone { s with last := none } [UInt8.ofNat s.sense]
  else dkCmd { s with last := none, found := false } s.found op b
def badAt (rs : List Rec) (n : Int) : List Rec :=
  match findN rs n with
  | none => rs
  | some i => rs.modify i fun x => { x with bad := true }
def dkUndo (s : DK) (how : Int) : DK × Bool :=
  if how < 0 ∨ 2 < how then (s, false) else
  match s.last with
  | none => (s, false)
  | some (t, b, n) =>
    ({ s with last := none, found := false, tracks := if how = 1 then s.tracks.set t b else if how = 2 then s.tracks.set t (badAt (s.tracks[t]?.getD []) n) else s.tracks }, true)
def dkSet (s : DK) (n : Int) (t : List Rec) : DK × Nat :=
  if n < 0 ∨ (s.tracks.length : Int) ≤ n then (s, 6) else
  if validB t = false then (s, 1) else
  let s2 := { s with tracks := s.tracks.set n.toNat t, last := none }
  (if n = (s.here : Int) then { s2 with next := 0, found := false } else s2, 0)
def dkPower (s : DK) : DK := { s with cyl := 0, head := 0, next := 0, found := false, sense := 0, last := none }
structure DK.ok (s : DK) : Prop where
  c1 : 1 ≤ s.cyls ∧ s.cyls ≤ 64
  h1 : 1 ≤ s.heads ∧ s.heads ≤ 8
  n1 : s.tracks.length = s.cyls * s.heads
  cy : s.cyl < s.cyls
  hd : s.head < s.heads
  val : ∀ t ∈ s.tracks, validB t = true
  nx : s.next ≤ 4096
  fd : s.found = true → s.next < s.recs.length
  sn : s.sense ≤ 255
  la : ∀ t b n, s.last = some (t, b, n) → t < s.tracks.length ∧ validB b = true
end Go.Proofs.YtfhpaehfihnjaaaGreat.D
namespace Go.Proofs.YtfhpaehfihnjaaaGreat.D
open Go.RowKit
theorem len_used : ∀ l : List Rec, l.length ≤ usedN l
  | [] => by simp
  | x :: l => by
    have := len_used l
    simp only [usedN, List.map_cons, List.sum_cons, List.length_cons, Rec.cost, costN] at *; omega
theorem valid_len {t : List Rec} (hv : validB t = true) : t.length ≤ 2048 := Nat.le_trans (len_used t) (validB_iff.1 hv).2
theorem valid_fit2 {t : List Rec} (hv : validB t = true) : Fit t := by
  have := valid_len hv
  refine ⟨by omega, fun x hx => ?_⟩
  obtain ⟨k, hk⟩ := List.mem_iff_getElem?.1 hx
  have := valid_rec hv hk
  omega
theorem valid_nil : validB [] = true := by kernel_rfl
section
variable {s : DK}
theorem DK.ok.here_lt (h : s.ok) : s.here < s.tracks.length := by
  rw [h.n1]
  unfold DK.here
  have h1 : (s.cyl + 1) * s.heads ≤ s.cyls * s.heads := Nat.mul_le_mul_right _ h.cy
  have h2 := h.hd
  rw [Nat.add_mul, Nat.one_mul] at h1
  omega
theorem DK.ok.at_ (h : s.ok) : s.tracks[s.here]? = some s.recs := by
  unfold DK.recs
  rw [List.getElem?_eq_getElem h.here_lt]; rfl
theorem DK.ok.rv (h : s.ok) : validB s.recs = true := h.val _ (List.mem_of_getElem? h.at_)
theorem DK.ok.rl (h : s.ok) : s.recs.length ≤ 2048 := valid_len h.rv
theorem DK.ok.nt (h : s.ok) : s.tracks.length ≤ 512 := by
  rw [h.n1]
  exact Nat.le_trans (Nat.mul_le_mul h.c1.2 h.h1.2) (by omega)
theorem check_ok (h : s.ok) {n : Nat} (hn : n ≤ 255) : (dkCheck s n).1.ok := { h with sn := hn }
theorem hit_ok (h : s.ok) {i : Nat} (hi : i < s.recs.length) : (dkHit s i).1.ok := { h with nx := (by have := h.rl; show i ≤ 4096; omega), fd := fun _ => hi }
theorem set_mem {ts : List (List Rec)} {i : Nat} {t : List Rec} (hts : ∀ t ∈ ts, validB t = true) (ht : validB t = true) : ∀ u ∈ ts.set i t, validB u = true := fun u hu => by
  rcases List.mem_or_eq_of_mem_set hu with h | h
  · exact hts u h
  · rw [h]; exact ht
theorem change_ok (h : s.ok) (hf : s.found = false) {t : List Rec} {n : Int} {k : Nat} (ht : validB t = true) (hk : k ≤ 4096) : ({ dkChange s t n with next := k } : DK).ok :=
  { c1 := h.c1, h1 := h.h1, n1 := (by show (s.tracks.set _ _).length = _; rw [List.length_set]; exact h.n1), cy := h.cy, hd := h.hd, val := set_mem h.val ht, nx := hk,
    fd := fun e => (by have e2 : s.found = true := e; rw [hf] at e2; cases e2), sn := h.sn,
    la := fun t' b m e => by
      have e2 : some (s.here, s.recs, n) = some (t', b, m) := e
      injection e2 with e2; injection e2 with e3 e4; injection e4 with e4 _
      subst e3; subst e4
      exact ⟨by show s.here < (s.tracks.set _ _).length; rw [List.length_set]; exact h.here_lt, h.rv⟩ }
theorem repR_valid {rs : List Rec} {x : Rec} : validB (repR rs x) = true := by
  by_cases he : repE rs x = 0
  · obtain ⟨_, hv, _⟩ := rep_keeps he; exact hv
  · unfold repR; rw [if_neg he]; exact valid_nil
theorem search_lt {rs : List Rec} {k : List UInt8} {high : Bool} {i : Nat} (h : searchN rs 0 k high = some i) : i < rs.length := by
  unfold searchN at h
  split at h
  · cases h
  · simp only [Int.toNat_zero, List.drop_zero, Option.map_eq_some_iff, Nat.zero_add] at h
    obtain ⟨j, hj, rfl⟩ := h
    exact (List.findIdx?_eq_some_iff_getElem.1 hj).1
theorem ite_P {α : Type} {P : α → Prop} {c : Prop} [Decidable c] {a b : α} (ha : P a) (hb : P b) : P (if c then a else b) := by split <;> assumption
theorem cmd_cases {P : DK × Rep → Prop} (s : DK) (was : Bool) (op : Int) (b : List UInt8) (p7 : P (dkSeek s b)) (p19 : P (dkDone { s with cyl := 0, head := 0, next := 0 } [])) (p17 : P (dkErase s)) (p49 : P (dkID s b 0)) (p113 : P (dkID s b 255)) (p41 : P (dkKey s b false)) (p105 : P (dkKey s b true))
    (p18 : P (dkCount s)) (p6 : P (dkRead s false false)) (p14 : P (dkRead s false true)) (p30 : P (dkRead s true true)) (p222 : P (dkTrack s)) (p5 : P (dkWriteData s was b)) (p13 : P (dkWriteKey s was b)) (p29 : P (dkFormat s b)) (pe : P (dkCheck s 128)) : P (dkCmd s was op b) := by
  unfold dkCmd
  exact ite_P p7 (ite_P p19 (ite_P p17 (ite_P p49 (ite_P p113 (ite_P p41 (ite_P p105 (ite_P p18 (ite_P p6 (ite_P p14 (ite_P p30 (ite_P p222 (ite_P p5 (ite_P p13 (ite_P p29 pe))))))))))))))
theorem cmd_ok (h : s.ok) (hf : s.found = false) {was : Bool} {op : Int} {b : List UInt8} : (dkCmd s was op b).1.ok := by
  have hr := h.rl
  have hnx : ∀ x, s.recs[s.next]? = some x → s.next < s.recs.length := fun x hx => (List.getElem?_eq_some_iff.1 hx).1
  have hread : ∀ c k, (dkRead s c k).1.ok := fun c k => by
    unfold dkRead
    cases hx : s.recs[s.next]? with
    | none => exact check_ok h (by omega)
    | some x =>
      have h2 : ({ s with next := s.next + 1 } : DK).ok := { h with nx := (by have := hnx x hx; show s.next + 1 ≤ 4096; omega), fd := fun e => (by have e2 : s.found = true := e; rw [hf] at e2; cases e2) }
      dsimp only
      split
      · exact check_ok h2 (by omega)
      · exact h2
  have hrw : ∀ x, s.next < s.recs.length → (dkRewrite s x).1.ok := fun x hl => change_ok h hf repR_valid (by omega)
  have hkey : ∀ hi, (dkKey s b hi).1.ok := fun hi => by
    unfold dkKey
    split
    · exact check_ok h (by omega)
    · split
      · rename_i i hi; exact hit_ok h (search_lt hi)
      · exact check_ok h (by omega)
  have hid : ∀ m, (dkID s b m).1.ok := fun m => by
    unfold dkID
    split
    · exact check_ok h (by omega)
    · split
      · split
        · rename_i i hi; exact hit_ok h (List.findIdx?_eq_some_iff_getElem.1 hi).1
        · exact check_ok h (by omega)
      · exact check_ok h (by omega)
  have h0 : ∀ c d, c < s.cyls → d < s.heads → ({ s with cyl := c, head := d, next := 0 } : DK).ok := fun c d hc hd => { h with cy := hc, hd := hd, nx := (by show 0 ≤ 4096; omega), fd := fun e => (by have e2 : s.found = true := e; rw [hf] at e2; cases e2) }
  refine cmd_cases (P := fun r => r.1.ok) s was op b ?_ (h0 0 0 (by have := h.c1; omega) (by have := h.h1; omega)) (change_ok h hf valid_nil (by omega)) (hid _) (hid _) (hkey _) (hkey _) ?_ (hread _ _) (hread _ _) (hread _ _) ?_ ?_ ?_ ?_ (check_ok h (by omega))
  · unfold dkSeek
    split
    · exact check_ok h (by omega)
    · exact h0 _ _ (by omega) (by omega)
  · unfold dkCount
    split
    · exact check_ok h (by omega)
    · exact h
  · have h2 : ({ s with next := s.recs.length } : DK).ok := { h with nx := (by show s.recs.length ≤ 4096; omega), fd := fun e => (by have e2 : s.found = true := e; rw [hf] at e2; cases e2) }
    unfold dkTrack
    split
    · exact check_ok h2 (by omega)
    · exact h2
  · unfold dkWriteData
    split
    · exact check_ok h (by omega)
    · split
      · exact check_ok h (by omega)
      · rename_i x hx; exact hrw _ (hnx x hx)
  · unfold dkWriteKey
    split
    · exact check_ok h (by omega)
    · split
      · exact check_ok h (by omega)
      · rename_i x hx; exact hrw _ (hnx x hx)
  · unfold dkFormat
    split
    · exact check_ok h (by omega)
    · split
      · exact check_ok h (by omega)
      · dsimp only
        split
        · exact check_ok h (by omega)
        · rename_i hp
          have hp' := Decidable.not_not.1 hp
          obtain ⟨e, hv, _⟩ := put_keeps hp'
          exact change_ok h hf (by rw [e]; exact hv) (by rw [e]; have := valid_len hv; omega)
theorem unlast_ok (h : s.ok) : ({ s with last := none } : DK).ok := { h with la := fun _ _ _ e => (by cases e) }
theorem do_ok (h : s.ok) {op : Int} {b : List UInt8} : (dkDo s op b).1.ok := by
  unfold dkDo
  split
  · exact unlast_ok h
  split
  · exact unlast_ok h
  · exact cmd_ok (s := { s with last := none, found := false }) { h with fd := fun e => (by cases e), la := fun _ _ _ e => (by cases e) } rfl
theorem bad_valid {rs : List Rec} {n : Int} (h : validB rs = true) : validB (badAt rs n) = true := by
  rw [← h]
  refine valid_like ?_
  unfold badAt
  split
  · rfl
  · apply List.ext_getElem?
    intro j
    rw [List.getElem?_map, List.getElem?_map, List.getElem?_modify]
    cases rs[j]? with
    | none => rfl
    | some x => simp only [Option.map_some]; split <;> rfl
theorem undo_ok (h : s.ok) {how : Int} : (dkUndo s how).1.ok := by
  unfold dkUndo
  split
  · exact h
  split
  · exact h
  · rename_i t b n hl
    obtain ⟨h1, h2⟩ := h.la _ _ _ hl
    have hg : ∀ ts : List (List Rec), ts.length = s.tracks.length → (∀ u ∈ ts, validB u = true) → ({ s with last := none, found := false, tracks := ts } : DK).ok := fun ts hn hv =>
      { c1 := h.c1, h1 := h.h1, n1 := (by show ts.length = _; rw [hn]; exact h.n1), cy := h.cy, hd := h.hd, val := hv, nx := h.nx, fd := fun e => (by cases e), sn := h.sn, la := fun _ _ _ e => (by cases e) }
    refine hg _ ?_ ?_
    · split
      · simp
      · split <;> simp
    · split
      · exact set_mem h.val h2
      · split
        · refine set_mem h.val (bad_valid ?_)
          rw [List.getElem?_eq_getElem h1]
          exact h.val _ (List.getElem_mem h1)
        · exact h.val
theorem set_ok (h : s.ok) {n : Int} {t : List Rec} : (dkSet s n t).1.ok := by
  unfold dkSet
  split
  · exact h
  split
  · exact h
  · rename_i hn hv
    have hv' : validB t = true := by simpa using hv
    have h2 : s.found = false → ({ s with tracks := s.tracks.set n.toNat t, last := none } : DK).ok := fun hf =>
      { c1 := h.c1, h1 := h.h1, n1 := (by show (s.tracks.set _ _).length = _; rw [List.length_set]; exact h.n1), cy := h.cy, hd := h.hd, val := set_mem h.val hv', nx := h.nx, fd := fun e => (by have e2 : s.found = true := e; rw [hf] at e2; cases e2), sn := h.sn, la := fun _ _ _ e => (by cases e) }
    dsimp only
    split
    · exact { c1 := h.c1, h1 := h.h1, n1 := (by show (s.tracks.set _ _).length = _; rw [List.length_set]; exact h.n1), cy := h.cy, hd := h.hd, val := set_mem h.val hv', nx := (by show 0 ≤ 4096; omega), fd := fun e => (by cases e), sn := h.sn, la := fun _ _ _ e => (by cases e) }
    · rename_i hne
      have hfd : s.found = true → s.next < ((s.tracks.set n.toNat t)[s.here]?.getD []).length := fun e => by
        have e2 := h.fd e
        rw [List.getElem?_set_ne (by omega)]
        exact e2
      exact { c1 := h.c1, h1 := h.h1, n1 := (by show (s.tracks.set _ _).length = _; rw [List.length_set]; exact h.n1), cy := h.cy, hd := h.hd, val := set_mem h.val hv', nx := h.nx, sn := h.sn, fd := hfd, la := fun _ _ _ e => (by cases e) }
theorem power_ok (h : s.ok) : (dkPower s).ok :=
  { c1 := h.c1, h1 := h.h1, n1 := h.n1, cy := (by have := h.c1; show 0 < s.cyls; omega), hd := (by have := h.h1; show 0 < s.heads; omega), val := h.val, nx := (by show 0 ≤ 4096; omega), fd := fun e => (by cases e), sn := (by show 0 ≤ 255; omega), la := fun _ _ _ e => (by cases e) }
end
end Go.Proofs.YtfhpaehfihnjaaaGreat.D
namespace Go.Proofs.YtfhpaehfihnjaaaGreat.D
open Go.RowKit
def tracksS (tb : Nat) (ts : List (List Rec)) : SA := fun h => ∃ vs : List Value, vs.length = ts.length ∧ star (cel tb vs.toArray 155 :: star (List.zipWith recsS vs ts) :: []) h
def lastS (lp : Option Addr) : Option (Nat × List Rec × Int) → SA
  | none => fun h => lp = none ∧ star [] h
  | some (t, b, n) => fun h => ∃ (lb : Nat) (v : Value), lp = some ⟨lb, 0, none⟩ ∧ star (cel lb #[.int .i64 (t : Int), v, .int .i64 n] 259 :: recsS v b :: []) h
abbrev dkCells (s : DK) (tb : Nat) (lp : Option Addr) (was : Bool) : Array Value :=
  #[.string s.serial, .int .i64 (s.cyls : Int), .int .i64 (s.heads : Int), .slice (some ⟨tb, 0, none⟩) s.tracks.length s.tracks.length, .int .i64 (s.cyl : Int), .int .i64 (s.head : Int), .int .i64 (s.next : Int), .bool s.found, .bool was, .int .i64 (s.sense : Int), .pointer lp]
def diskW (x : Nat) (s : DK) (was : Bool) : SA := fun h => ∃ (tb : Nat) (lp : Option Addr), star (cel x (dkCells s tb lp was) 173 :: tracksS tb s.tracks :: lastS lp s.last :: []) h
def diskS (x : Nat) (s : DK) : SA := fun h => ∃ was : Bool, diskW x s was h
section
variable {W w : World} {F : List SA}
theorem star_one {P : SA} {h : Hp} (p : P h) : star (P :: []) h := ⟨h, fun _ => none, p, trivial, (by intro b o o' _ e; cases e), Hp.le_refl _, (by intro b o e; cases e)⟩
theorem disk_open {x : Nat} {s : DK} (S : SL W (diskS x s :: F) w) : ∃ was, SL W (diskW x s was :: F) w := by
  obtain ⟨was, _, S1⟩ := SL.unpack (α := Bool) (φ := fun _ => True) (K := fun was => [diskW x s was]) S (by
    rintro h ⟨was, p⟩
    exact ⟨was, trivial, star_one p⟩)
  exact ⟨was, S1⟩
theorem disk_close {x : Nat} {s : DK} {was : Bool} (S : SL W (diskW x s was :: F) w) : SL W (diskS x s :: F) w := S.head fun _ p => ⟨was, p⟩
theorem diskW_open {x : Nat} {s : DK} {was : Bool} (S : SL W (diskW x s was :: F) w) : ∃ tb lp, SL W (cel x (dkCells s tb lp was) 173 :: tracksS tb s.tracks :: lastS lp s.last :: F) w := by
  obtain ⟨⟨tb, lp⟩, _, S1⟩ := SL.unpack (α := Nat × Option Addr) (φ := fun _ => True) (K := fun p => [cel x (dkCells s p.1 p.2 was) 173, tracksS p.1 s.tracks, lastS p.2 s.last]) S (by
    rintro h ⟨tb, lp, p⟩
    exact ⟨(tb, lp), trivial, p⟩)
  exact ⟨tb, lp, S1⟩
theorem diskW_close {x tb : Nat} {lp : Option Addr} {s : DK} {was : Bool} (S : SL W (cel x (dkCells s tb lp was) 173 :: tracksS tb s.tracks :: lastS lp s.last :: F) w) : SL W (diskW x s was :: F) w :=
  SL.pack (L := [cel x (dkCells s tb lp was) 173, tracksS tb s.tracks, lastS lp s.last]) S fun _ p => ⟨tb, lp, p⟩
theorem tracks_open {tb : Nat} {ts : List (List Rec)} (S : SL W (tracksS tb ts :: F) w) : ∃ vs : List Value, vs.length = ts.length ∧ SL W (cel tb vs.toArray 155 :: star (List.zipWith recsS vs ts) :: F) w := by
  obtain ⟨vs, hv, S1⟩ := SL.unpack (α := List Value) (φ := fun vs => vs.length = ts.length) (K := fun vs => [cel tb vs.toArray 155, star (List.zipWith recsS vs ts)]) S (by
    rintro h ⟨vs, hv, p⟩
    exact ⟨vs, hv, p⟩)
  exact ⟨vs, hv, S1⟩
theorem tracks_close {tb : Nat} {ts : List (List Rec)} {vs : List Value} (hv : vs.length = ts.length) (S : SL W (cel tb vs.toArray 155 :: star (List.zipWith recsS vs ts) :: F) w) : SL W (tracksS tb ts :: F) w :=
  SL.pack (L := [cel tb vs.toArray 155, star (List.zipWith recsS vs ts)]) S fun _ p => ⟨vs, hv, p⟩
theorem zip_get {vs : List Value} {ts : List (List Rec)} (hv : vs.length = ts.length) {i : Nat} {t : List Rec} (ht : ts[i]? = some t) : ∃ v, vs[i]? = some v ∧ (List.zipWith recsS vs ts)[i]? = some (recsS v t) := by
  have hl := (List.getElem?_eq_some_iff.1 ht).1
  have hv' : vs[i]? = some vs[i] := List.getElem?_eq_getElem (by omega)
  exact ⟨vs[i], hv', by rw [List.getElem?_zipWith, hv', ht]⟩
theorem tracks_get {tb i : Nat} {ts : List (List Rec)} {t : List Rec} (ht : ts[i]? = some t) (S : SL W (tracksS tb ts :: F) w) : ∃ A c, w.cell? ⟨tb, i, none⟩ = some (.slice A t.length c) ∧ w.frozen? ⟨tb, i, none⟩ = false ∧ RecsAt w A t ∧ t.length ≤ c ∧ c ≤ maxLen := by
  obtain ⟨vs, hv, S1⟩ := tracks_open S
  obtain ⟨v, h1, h2⟩ := zip_get hv ht
  obtain ⟨L, K, _⟩ := S1.look
  have S2 := S1.s1.take h2
  obtain ⟨A, c, rfl, hc, hm⟩ := recsS_len S2
  exact ⟨A, c, by rw [L]; simpa using h1, K _, recsS_at S2, hc, hm⟩
theorem tracks_swap2 {tb i : Nat} {ts : List (List Rec)} {t t' : List Rec} {v v' : Value} {vs : List Value} (hv : vs.length = ts.length) (ht : ts[i]? = some t) (h1 : vs[i]? = some v) (S1 : SL W (cel tb vs.toArray 155 :: star (List.zipWith recsS vs ts) :: recsS v' t' :: F) w) : SL W (recsS v t :: tracksS tb (ts.set i t') :: F) (w.setCell ⟨tb, i, none⟩ v') := by
  have h2 : (List.zipWith recsS vs ts)[i]? = some (recsS v t) := by rw [List.getElem?_zipWith, h1, ht]
  have hl := (List.getElem?_eq_some_iff.1 ht).1
  have S2 := S1.set (off := i) (v := v') (cs' := (vs.set i v').toArray) (by simp)
  have S3 := S2.s1.take h2
  -- recsS v t :: star (erase) :: cel :: recsS v' t'
  have S4 := S3.s3.s2
  have S5 : SL W (recsS v' t' :: star ((List.zipWith recsS vs ts).eraseIdx i) :: recsS v t :: cel tb (vs.set i v').toArray 155 :: F) (w.setCell ⟨tb, i, none⟩ v') := by
    exact SL.perm S3 (by
      refine List.Perm.trans (l₂ := recsS v t :: recsS v' t' :: star ((List.zipWith recsS vs ts).eraseIdx i) :: cel tb (vs.set i v').toArray 155 :: F) ?_ ?_
      · refine List.Perm.cons _ ?_
        exact (List.perm_middle (l₁ := [star ((List.zipWith recsS vs ts).eraseIdx i), cel tb (vs.set i v').toArray 155]) (l₂ := F) (a := recsS v' t'))
      · exact ((List.Perm.swap _ _ _).trans (List.Perm.cons _ (List.Perm.swap _ _ _))))
  have S6 := S5.put (by rw [List.length_zipWith]; omega)
  have he : (List.zipWith recsS vs ts).set i (recsS v' t') = List.zipWith recsS (vs.set i v') (ts.set i t') := by
    apply List.ext_getElem?
    intro j
    rw [List.getElem?_set, List.getElem?_zipWith, List.getElem?_zipWith, List.getElem?_set, List.getElem?_set, List.length_zipWith]
    by_cases hj : i = j
    · subst hj
      rw [if_pos rfl, if_pos rfl, if_pos rfl, if_pos (by omega), if_pos (by omega), if_pos hl]
    · rw [if_neg hj, if_neg hj, if_neg hj]
  rw [he] at S6
  exact (tracks_close (by simp [hv]) S6.s2.s1.s1.s2.s1.s2.s1).s1
end
end Go.Proofs.YtfhpaehfihnjaaaGreat.D
namespace Go.Proofs.YtfhpaehfihnjaaaGreat.D
open Go.RowKit
abbrev DT : TypeId := 173
section
variable {W w : World} {F : List SA} {x tb : Nat} {s : DK} {lp : Option Addr} {was : Bool}
theorem two_bits (x y : UInt8) : bits BinOp.or IntKind.i64 (wrap64 (wrap64 (x.toNat : Int) * 256)) (wrap64 (y.toNat : Int)) = ((x.toNat * 256 + y.toNat : Nat) : Int) := by
  have hx := x.toNat_lt
  have hy := y.toNat_lt
  have e1 : wrap64 (wrap64 (x.toNat : Int) * 256) = ((x.toNat * 256 : Nat) : Int) := by unfold wrap64; omega
  have e2 : wrap64 (y.toNat : Int) = ((y.toNat : Nat) : Int) := by unfold wrap64; omega
  rw [e1, e2]
  show IntKind.i64.wrap (((BitVec.ofInt 64 _ ||| BitVec.ofInt 64 _).toNat : Nat) : Int) = _
  rw [BitVec.toNat_or, BitVec.toNat_ofInt, BitVec.toNat_ofInt]
  rw [show (((x.toNat * 256 : Nat) : Int) % ((2 ^ 64 : Nat) : Int)).toNat = x.toNat * 256 by omega, show (((y.toNat : Nat) : Int) % ((2 ^ 64 : Nat) : Int)).toNat = y.toNat by omega, nat_join 8 _ _ (by omega) (by omega)]
  exact IntWalk.i64_in _ (by omega)
theorem done_any (A : Option Addr) (n c : Nat) (w : World) : Calls Tryz.prog 216 #[.slice A n c] w fun e w' => e = .returned (.agg #[.slice A n c, .int .i64 12, .int .i64 0]) ∧ Below w.heap.size w w' := by
  go_enter Tryz.func216, Tryz.ntmps216
  go_wp2
  exact bodyPost_ret (v := .agg #[.slice A n c, .int .i64 12, .int .i64 0]) (by simp [results, Tryz.results216, go_sem]) rfl ⟨rfl, by (repeat' (first | (with_reducible exact Below.refl _ _) | (with_reducible assumption) | (with_reducible refine below_drewN ?_ _) | (with_reducible refine Below.drew ?_) | (with_reducible refine Below.alloc ?_ ?_ _) | (with_reducible refine Below.setCell ?_ ?_ _) | (with_reducible refine below_row ?_ ?_ _) | (with_reducible exact Nat.le_refl _) | omega | (simp only [World.size_alloc, World.size_setCell, World.size_drew, World.size_drewN]; omega) | (simp; done) | (simp; omega)))⟩
theorem two_any (A : Option Addr) (b : List UInt8) (n c : Nat) (w : World) (h : CardAt w A b c) (hn : n = b.length) (h2 : 2 ≤ n) : Calls Tryz.prog 237 #[.slice A n c] w fun e w' => e = .returned (.int .i64 (two b 0 : Nat)) ∧ Still w w' := by
  subst hn
  have h1 : 0 < b.length := by omega
  have hl : b.length ≤ 9223372036854775807 := by have := h.2; unfold maxLen at this; omega
  obtain ⟨g, off, rfl, _, hc⟩ := h.1 (by intro h; have := congrArg List.length h; simp [Lib.byteCells] at this; subst this; simp at h1)
  have c0 := hc 0 _ (byteCells_get b 0 h1)
  have c1 := hc 1 _ (byteCells_get b 1 (by omega))
  have e0 : (two b 0 : Nat) = b[0].toNat * 256 + b[1].toNat := by unfold two; rw [List.getElem?_eq_getElem h1, List.getElem?_eq_getElem (by omega)]; simp; omega
  rw [Nat.add_zero] at c0
  rw [e0]
  generalize b[0] = x0 at *
  generalize b[1] = x1 at *
  clear hc h e0
  go_enter Tryz.func237, Tryz.ntmps237
  go_wp2
  go_quiet (fail)
  go_wp2
  go_ret
  exact ⟨by rw [← two_bits]; rfl, by first | exact still_1 _ _ | exact still_2 _ _ _⟩
theorem ready_any (hn : 0 < s.tracks.length) (S : SL W (cel x (dkCells s tb lp was) 173 :: F) w) : Calls Tryz.prog 96 #[.pointer (some ⟨x, 0, none⟩)] w fun e w' => e = .returned (.bool true) ∧ w' = w := by
  obtain ⟨L, K, z⟩ := S.look
  have hn1 : (0 : Int) < (s.tracks.length : Int) := by omega
  clear S
  go_enter Tryz.func96, Tryz.ntmps96
  go_wp2
  go_ret
  exact ⟨rfl, rfl⟩
theorem ready_nil (w : World) : Calls Tryz.prog 96 #[.pointer none] w fun e w' => e = .returned (.bool false) ∧ w' = w := by
  go_enter Tryz.func96, Tryz.ntmps96
  go_wp2
  go_ret
  exact ⟨rfl, rfl⟩
theorem check_any (n : Nat) (S : SL W (cel x (dkCells s tb lp was) 173 :: F) w) : Calls Tryz.prog 218 #[.pointer (some ⟨x, 0, none⟩), .int .i64 (n : Int)] w fun e w' => e = .returned (.agg #[.slice none 0 0, .int .i64 14, .int .i64 (n : Int)]) ∧ SL W (cel x (dkCells { s with sense := n } tb lp was) 173 :: F) w' := by
  have HS := Lib.hid S
  obtain ⟨L, K, z⟩ := S.look
  clear S
  go_enter Tryz.func218, Tryz.ntmps218
  go_wp2
  refine bodyPost_ret (v := .agg #[.slice none 0 0, .int .i64 14, .int .i64 (n : Int)]) (by simp [results, Tryz.results218, go_sem]) rfl ⟨rfl, ?_⟩
  exact ((HS.out.set (off := 9) (v := .int .i64 (n : Int)) (cs' := dkCells { s with sense := n } tb lp was) rfl).allocC _ _).drop
theorem here_any (h : s.ok) (S : SL W (cel x (dkCells s tb lp was) 173 :: F) w) : Calls Tryz.prog 250 #[.pointer (some ⟨x, 0, none⟩)] w fun e w' => e = .returned (.int .i64 (s.here : Int)) ∧ Still w w' := by
  obtain ⟨L, K, z⟩ := S.look
  have hb := h.here_lt
  have hc := h.cy
  have hd := h.hd
  have hc1 := h.c1
  have hh1 := h.h1
  have hnt := h.nt
  have e1 : IntKind.i64.wrap ((s.cyl : Int) * (s.heads : Int)) = (s.cyl : Int) * (s.heads : Int) := IntWalk.i64_in _ (by
    have : s.cyl * s.heads ≤ 64 * 8 := Nat.mul_le_mul (by omega) (by omega)
    have h2 : ((s.cyl * s.heads : Nat) : Int) ≤ 512 := by omega
    have h3 : (0 : Int) ≤ ((s.cyl * s.heads : Nat) : Int) := by omega
    rw [Int.natCast_mul] at h2 h3
    omega)
  have e2 : IntKind.i64.wrap ((s.cyl : Int) * (s.heads : Int) + (s.head : Int)) = (s.here : Int) := by
    have e3 : (s.here : Int) = (s.cyl : Int) * (s.heads : Int) + (s.head : Int) := by unfold DK.here; push_cast; rfl
    rw [← e3]
    exact IntWalk.i64_in _ (by omega)
  clear S h hb hc hd hc1 hh1 hnt
  go_enter Tryz.func250, Tryz.ntmps250
  go_wp2
  go_quiet (fail)
  go_wp2
  go_ret
  exact ⟨rfl, by first | exact still_1 _ _ | exact still_2 _ _ _⟩
end
end Go.Proofs.YtfhpaehfihnjaaaGreat.D
namespace Go.Proofs.YtfhpaehfihnjaaaGreat.D
open Go.RowKit
def mapE (l : List (Int × Value)) : List MapEntry := (l.zipIdx).map fun p => ⟨.int .i64 p.1.1, p.1.2, p.2⟩
def lk (l : List (Int × Value)) (k : Int) : Option Value := (l.find? (fun p => p.1 == k)).map Prod.snd
theorem find_now (k : Int) : ∀ (l : List (Int × Value)) (n i : Nat), ∃ r, Instr.findNow (.int .i64) (.int .i64 k) ((l.zipIdx n).map fun p => (⟨.int .i64 p.1.1, p.1.2, p.2⟩ : MapEntry)) i = some r ∧ r.map Prod.snd = lk l k
  | [], _, _ => ⟨none, rfl, rfl⟩
  | a :: l, n, i => by
    obtain ⟨r, h1, h2⟩ := find_now k l (n + 1) (i + 1)
    by_cases h : a.1 = k
    · refine ⟨some (i, a.2), ?_, ?_⟩
      · simp [List.zipIdx_cons, Instr.findNow, Instr.sameNow, h]
      · simp [lk, h]
    · refine ⟨r, ?_, ?_⟩
      · have hb : (k == a.1) = false := by rw [beq_eq_false_iff_ne]; exact fun e => h e.symm
        simp [List.zipIdx_cons, Instr.findNow, Instr.sameNow, hb]
        exact h1
      · rw [h2]
        have hb : (a.1 == k) = false := by rw [beq_eq_false_iff_ne]; exact h
        simp [lk, List.find?_cons, hb]
theorem mapE_push (l : List (Int × Value)) (k : Int) (v : Value) : (mapE l).toArray.push ⟨.int .i64 k, v, l.length⟩ = (mapE (l ++ [(k, v)])).toArray := by
  unfold mapE
  rw [List.zipIdx_append, List.map_append]
  simp
def mapS (b : Nat) (l : List (Int × Value)) : SA := pts b (.map (mapE l).toArray l.length)
def cmdL (x : Nat) : List (Int × Value) := [(7, .func (.func 220) #[.pointer (some ⟨x, 0, none⟩)] #[]), (19, .func (.func 221) #[.pointer (some ⟨x, 0, none⟩)] #[]), (17, .func (.func 222) #[.pointer (some ⟨x, 0, none⟩)] #[]), (49, .func (.func 223) #[.pointer (some ⟨x, 0, none⟩)] #[]), (113, .func (.func 224) #[.pointer (some ⟨x, 0, none⟩)] #[]), (41, .func (.func 225) #[.pointer (some ⟨x, 0, none⟩)] #[]), (105, .func (.func 226) #[.pointer (some ⟨x, 0, none⟩)] #[]), (18, .func (.func 227) #[.pointer (some ⟨x, 0, none⟩)] #[]), (6, .func (.func 228) #[.pointer (some ⟨x, 0, none⟩)] #[]), (14, .func (.func 229) #[.pointer (some ⟨x, 0, none⟩)] #[]), (30, .func (.func 230) #[.pointer (some ⟨x, 0, none⟩)] #[]), (222, .func (.func 231) #[.pointer (some ⟨x, 0, none⟩)] #[]), (5, .func (.func 232) #[.pointer (some ⟨x, 0, none⟩)] #[]), (13, .func (.func 233) #[.pointer (some ⟨x, 0, none⟩)] #[]), (29, .func (.func 234) #[.pointer (some ⟨x, 0, none⟩)] #[])]
theorem heap_set1 {w : World} {b : Nat} {o o' : Obj} (hb : w.heap[b]? = some o) : (Go.ChangeMaps.setBlock w b o').heap[b]? = some o' := (MapKept.heap_set hb).1
section
variable {P : Program} {W w : World} {F : List SA}
theorem run_insert {T kt et : TypeId} (hT : P.underlying T = some (.map kt et)) (hk : P.underlying kt = some (.int .i64)) {b : Nat} {l : List (Int × Value)} (S : SL W (mapS b l :: F) w) (k : Int) (hl : lk l k = none) (v : Value) :
    ∃ w', (Instr.mapUpdate T (.map (some b)) (.int .i64 k) v).run P w = .ok () w' ∧ SL W (mapS b (l ++ [(k, v)]) :: F) w' := by
  have hb : w.heap[b]? = some (.map (mapE l).toArray l.length) := SL.row S
  obtain ⟨r, h1, h2⟩ := find_now k l 0 0
  rw [hl] at h2
  obtain rfl : r = none := by cases r <;> simp_all
  have hf : Instr.findNow (.int .i64) (.int .i64 k) (mapE l).toArray.toList 0 = some none := h1
  have hkey : MapKept.IsKey (.int .i64) (.int .i64 k) := by simp [MapKept.IsKey]
  refine ⟨Go.ChangeMaps.setBlock w b (.map ((mapE l).toArray.push ⟨.int .i64 k, v, l.length⟩) (l.length + 1)), ?_, ?_⟩
  · simp [Instr.mapUpdate, run_underlying hT, MapKept.run_getObj_map hb, MapKept.run_checkKey hk hkey, MapKept.run_findKey hk hf, MapKept.run_setObj_map _ hb, Result.andThen, Go.ChangeMaps.setBlock]
  · rw [mapE_push]
    have hlen : (l ++ [(k, v)]).length = l.length + 1 := by simp
    unfold mapS
    rw [hlen]
    exact SL.turn S (heap_set1 hb) ⟨rfl, rfl, rfl, by simp [Go.ChangeMaps.setBlock], fun c _ hne => (MapKept.heap_set hb).2 c hne⟩
theorem run_look {T kt et : TypeId} (hT : P.underlying T = some (.map kt et)) (hk : P.underlying kt = some (.int .i64)) {z : Value} (hz : ∀ w, (zeroValue et).run P w = .ok z w) {b : Nat} {l : List (Int × Value)} (S : SL W (mapS b l :: F) w) (k : Int) :
    (Instr.lookup T (.map (some b)) (.int .i64 k) true).run P w = .ok (.tuple #[(lk l k).getD z, .bool (lk l k).isSome]) w := by
  have hb : w.heap[b]? = some (.map (mapE l).toArray l.length) := SL.row S
  obtain ⟨r, h1, h2⟩ := find_now k l 0 0
  have hf : Instr.findNow (.int .i64) (.int .i64 k) (mapE l).toArray.toList 0 = some r := h1
  have hkey : MapKept.IsKey (.int .i64) (.int .i64 k) := by simp [MapKept.IsKey]
  rw [← h2]
  cases r with
  | none => simp [Instr.lookup, run_underlying hT, MapKept.run_getObj_map hb, MapKept.run_checkKey hk hkey, MapKept.run_findKey hk hf, Result.andThen, hz]
  | some r => simp [Instr.lookup, run_underlying hT, MapKept.run_getObj_map hb, MapKept.run_checkKey hk hkey, MapKept.run_findKey hk hf, Result.andThen]
end
set_option maxHeartbeats 8000000 in
theorem commands_any {W w : World} {F : List SA} (x : Nat) (S : SL W F w) : Calls Tryz.prog 217 #[.pointer (some ⟨x, 0, none⟩)] w fun e w' => ∃ b, e = .returned (.map (some b)) ∧ SL W (mapS b (cmdL x) :: F) w' := by
  have HS := Lib.hid S
  clear S
  have S0 : SL W (mapS w.heap.size [] :: F) (w.alloc (.map #[] 0)) := HS.out.alloc _
  obtain ⟨w1, r1, S1⟩ := run_insert (P := Tryz.prog) (T := 256) Tryz.underlying256 Tryz.underlying3 S0 7 (by rfl) (.func (.func 220) #[.pointer (some ⟨x, 0, none⟩)] #[])
  obtain ⟨w2, r2, S2⟩ := run_insert (P := Tryz.prog) (T := 256) Tryz.underlying256 Tryz.underlying3 S1 19 (by rfl) (.func (.func 221) #[.pointer (some ⟨x, 0, none⟩)] #[])
  obtain ⟨w3, r3, S3⟩ := run_insert (P := Tryz.prog) (T := 256) Tryz.underlying256 Tryz.underlying3 S2 17 (by rfl) (.func (.func 222) #[.pointer (some ⟨x, 0, none⟩)] #[])
  obtain ⟨w4, r4, S4⟩ := run_insert (P := Tryz.prog) (T := 256) Tryz.underlying256 Tryz.underlying3 S3 49 (by rfl) (.func (.func 223) #[.pointer (some ⟨x, 0, none⟩)] #[])
  obtain ⟨w5, r5, S5⟩ := run_insert (P := Tryz.prog) (T := 256) Tryz.underlying256 Tryz.underlying3 S4 113 (by rfl) (.func (.func 224) #[.pointer (some ⟨x, 0, none⟩)] #[])
  obtain ⟨w6, r6, S6⟩ := run_insert (P := Tryz.prog) (T := 256) Tryz.underlying256 Tryz.underlying3 S5 41 (by rfl) (.func (.func 225) #[.pointer (some ⟨x, 0, none⟩)] #[])
  obtain ⟨w7, r7, S7⟩ := run_insert (P := Tryz.prog) (T := 256) Tryz.underlying256 Tryz.underlying3 S6 105 (by rfl) (.func (.func 226) #[.pointer (some ⟨x, 0, none⟩)] #[])
  obtain ⟨w8, r8, S8⟩ := run_insert (P := Tryz.prog) (T := 256) Tryz.underlying256 Tryz.underlying3 S7 18 (by rfl) (.func (.func 227) #[.pointer (some ⟨x, 0, none⟩)] #[])
  obtain ⟨w9, r9, S9⟩ := run_insert (P := Tryz.prog) (T := 256) Tryz.underlying256 Tryz.underlying3 S8 6 (by rfl) (.func (.func 228) #[.pointer (some ⟨x, 0, none⟩)] #[])
  obtain ⟨w10, r10, S10⟩ := run_insert (P := Tryz.prog) (T := 256) Tryz.underlying256 Tryz.underlying3 S9 14 (by rfl) (.func (.func 229) #[.pointer (some ⟨x, 0, none⟩)] #[])
  obtain ⟨w11, r11, S11⟩ := run_insert (P := Tryz.prog) (T := 256) Tryz.underlying256 Tryz.underlying3 S10 30 (by rfl) (.func (.func 230) #[.pointer (some ⟨x, 0, none⟩)] #[])
  obtain ⟨w12, r12, S12⟩ := run_insert (P := Tryz.prog) (T := 256) Tryz.underlying256 Tryz.underlying3 S11 222 (by rfl) (.func (.func 231) #[.pointer (some ⟨x, 0, none⟩)] #[])
  obtain ⟨w13, r13, S13⟩ := run_insert (P := Tryz.prog) (T := 256) Tryz.underlying256 Tryz.underlying3 S12 5 (by rfl) (.func (.func 232) #[.pointer (some ⟨x, 0, none⟩)] #[])
  obtain ⟨w14, r14, S14⟩ := run_insert (P := Tryz.prog) (T := 256) Tryz.underlying256 Tryz.underlying3 S13 13 (by rfl) (.func (.func 233) #[.pointer (some ⟨x, 0, none⟩)] #[])
  obtain ⟨w15, r15, S15⟩ := run_insert (P := Tryz.prog) (T := 256) Tryz.underlying256 Tryz.underlying3 S14 29 (by rfl) (.func (.func 234) #[.pointer (some ⟨x, 0, none⟩)] #[])
  have HE := Lib.hid S15
  clear S0 S1 S2 S3 S4 S5 S6 S7 S8 S9 S10 S11 S12 S13 S14 S15
  have hmm := @run_makeMap Tryz.prog
  have hmf : ∀ (fn : Fn) (first cap : Array Value) (w : World), (Instr.makeFunc fn first cap).run Tryz.prog w = .ok (.func fn first cap) w := fun _ _ _ _ => rfl
  go_enter Tryz.func217, Tryz.ntmps217
  go_wp2
  go_ret
  exact ⟨_, rfl, HE.out⟩
end Go.Proofs.YtfhpaehfihnjaaaGreat.D
namespace Go.Proofs.YtfhpaehfihnjaaaGreat.D
open Go.RowKit
def CardB (W : World) (F : List SA) (A : Option Addr) (b : List UInt8) (c : Nat) : Prop := ∀ w, SL W F w → CardAt w A b c
theorem CardB.base {W : World} {F : List SA} {A : Option Addr} {b : List UInt8} {c : Nat} (h : CardAt W A b c) : CardB W F A b c := fun _ S => h.grow S.below
def RetM (W : World) (F : List SA) (x : Nat) (r : DK × Rep) (e : Ending) (w' : World) : Prop :=
  ∃ A c, e = .returned (.agg #[.slice A r.2.1.length c, .int .i64 (r.2.2.1 : Int), .int .i64 (r.2.2.2 : Int)]) ∧ SL W (rowS 5 1 (.slice A r.2.1.length c) r.2.1.length (Lib.byteCells r.2.1) :: diskS x r.1 :: F) w'
section
variable {W w : World} {F : List SA} {x tb : Nat} {s : DK} {lp : Option Addr} {was : Bool}
theorem RetM.of {r : DK} {st sn : Nat} {w' : World} (S : SL W (diskW x r was :: F) w') : RetM W F x (r, [], st, sn) (.returned (.agg #[.slice none 0 0, .int .i64 (st : Int), .int .i64 (sn : Int)])) w' :=
  ⟨none, 0, rfl, (disk_close S).nil _ _⟩
theorem here_b (h : s.ok) (S : SL W (cel x (dkCells s tb lp was) 173 :: F) w) : Calls Tryz.prog 250 #[.pointer (some ⟨x, 0, none⟩)] w fun e w' => e = .returned (.int .i64 (s.here : Int)) ∧ Below w.heap.size w w' :=
  (here_any h S).mono fun e w' k => ⟨k.1, k.2.below _⟩
theorem records_any (h : s.ok) {v : Value} (hv : w.cell? ⟨tb, s.here, none⟩ = some v) (S : SL W (cel x (dkCells s tb lp was) 173 :: F) w) : Calls Tryz.prog 241 #[.pointer (some ⟨x, 0, none⟩)] w fun e w' => e = .returned v ∧ Below w.heap.size w w' := by
  obtain ⟨L, K, z⟩ := S.look
  have zt := World.block_lt_of_cell? w _ hv
  have HL := Lib.hid (fun (wx : World) (hx : Below w.heap.size w wx) => (⟨(hx.cell (p := ⟨x, 3, none⟩) z).trans (L 3), (hx.cell (p := ⟨tb, s.here, none⟩) zt).trans hv⟩ : wx.cell? ⟨x, 3, none⟩ = some (.slice (some ⟨tb, 0, none⟩) s.tracks.length s.tracks.length) ∧ wx.cell? ⟨tb, s.here, none⟩ = some v))
  have HH := Lib.hid (fun (wx : World) (hx : Below w.heap.size w wx) => here_b h (S.grow hx))
  have hb := h.here_lt
  have hnt := h.nt
  generalize s.here = hn at *
  clear L K z zt hv S h
  go_enter Tryz.func241, Tryz.ntmps241
  go_upto_region 1 with fail
  refine wp_region_quiet (C := Below w.heap.size w) (by kernel_rfl) (by kernel_rfl) (Below.refl _ _).drew ?_
  (repeat (with_reducible refine wpQuiet_step ?_; intro K hK; go_simp; first | (with_reducible refine hK _ ?_; clear hK K) | (rw [if_neg (by decide)]; with_reducible refine hK _ ?_; clear hK K) | (refine ⟨_, fun wx hx => (by obtain ⟨f0, f1⟩ := HL.out wx hx; go_simp; with_reducible rfl), hK _ ?_⟩; clear hK K) | (refine ⟨_, fun wx hx => (by with_reducible refine (HH.out wx hx).mono ?_; rintro e w' ⟨rfl, h2⟩; exact ⟨rfl, hx.trans (h2.mono hx.size)⟩), hK _ ?_⟩; clear hK K) | (refine ⟨_, fun _ _ => rfl, hK _ ?_⟩; clear hK K))); with_reducible refine wpQuiet_nil ?_
  intro w1 hw1
  go_wp2
  go_ret
  exact ⟨rfl, hw1⟩
end
end Go.Proofs.YtfhpaehfihnjaaaGreat.D
