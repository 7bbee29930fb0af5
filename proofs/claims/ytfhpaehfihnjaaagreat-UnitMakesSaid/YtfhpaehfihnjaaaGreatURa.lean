/- URdA, URdOwn. -/
import Derived.Test.YtfhpaehfihnjaaaGreatRows
import Derived.Test.YtfhpaehfihnjaaaGreatKitA
import Derived.ProofKit
import Derived.OpenShut
import Derived.ShutString
import Derived.ChangeOld
import Derived.Deep.Fields
import Derived.Deep.Slices
import Derived.Test.YtfhpaehfihnjaaaGreatUPa
import Derived.IntWalk
set_option maxRecDepth 100000
namespace Go.Proofs.YtfhpaehfihnjaaaGreat.U
open Go.ChangeShapes Go.WideShapes Go.ChangeAt Go.RowKit
theorem own : ownKnob Tryz.prog.godebug = none := by kernel_rfl
theorem laidOut : laidOutB Tryz.prog = true := by kernel_rfl
theorem u8_of_wf {n : Int} (h : (Lit.int .u8 n).wf = true) : ∃ c : UInt8, n = (c.toNat : Int) := by
  have hb := bounds_u8 h
  refine ⟨UInt8.ofNat n.toNat, ?_⟩
  rw [UInt8.toNat_ofNat']
  omega
theorem bytes_of_nums : ∀ (zs : List Int), (∀ n ∈ zs, (Lit.int .u8 n).wf = true) → ∃ l : List UInt8, zs.map (Value.int .u8) = Lib.byteCells l
  | [], _ => ⟨[], rfl⟩
  | z :: zs, h => by
    obtain ⟨c, hc⟩ := u8_of_wf (h z (by simp))
    obtain ⟨l, hl⟩ := bytes_of_nums zs (fun n hn => h n (by simp [hn]))
    exact ⟨c :: l, by rw [List.map_cons, hl, hc]; rfl⟩
theorem open_bytes {H : Type} {enc : TypeId × Value → H} {P : Program} {w : World} {base : Nat} {spare : Nat → Bool} {held : Bool} {fuel : Nat} {t e : TypeId} {x : DataW H × List MemPlace} {a : Option Addr} {len cap : Nat}
    (ht : P.underlying t = some (.slice e)) (he : P.underlying e = some (.int .u8)) (hc : P.cellsOf e = 1) (h : DataW.trod enc P w base spare held fuel t [.slice a len cap] = some x) :
    ∃ l : List UInt8, len = l.length ∧ len ≤ cap ∧ cap ≤ maxLen ∧ At w w.heap.size a (Lib.byteCells l) := by
  rcases open_ints ht he hc h with ⟨hcs, _⟩ | ⟨y, l, c, zs, hcs, _, hl, hm, hz, _, hcell, hwz⟩
  · simp at hcs
    obtain ⟨rfl, rfl, rfl⟩ := hcs
    exact ⟨[], rfl, Nat.le_refl _, Nat.zero_le _, At.nil_⟩
  · simp at hcs
    obtain ⟨rfl, rfl, rfl⟩ := hcs
    have hzl : len ≤ zs.length := by rw [hz]; split <;> omega
    obtain ⟨l, hbl⟩ := bytes_of_nums (zs.take len) (fun n hn => hwz n (List.mem_of_mem_take hn))
    have hll : len = l.length := by
      have := congrArg List.length hbl
      rw [byteCells_len, List.length_map, List.length_take] at this
      omega
    refine ⟨l, hll, hl, hm, fun hne => ?_⟩
    have hpos : 0 < len := by
      rcases Nat.eq_zero_or_pos len with h0 | h0
      · exact absurd (List.eq_nil_of_length_eq_zero (by rw [byteCells_len]; omega)) hne
      · exact h0
    have h0 := hcell 0 (by omega)
    have hspot : y.spot = none := World.cell?_spot (a := y) (by simpa [Addr.add] using h0)
    obtain ⟨b, off, spot⟩ := y
    have hspot' : spot = none := hspot
    subst hspot'
    refine ⟨b, off, rfl, World.block_lt_of_cell? w ⟨b, off, none⟩ (by simpa [Addr.add] using h0), fun j u hu => ?_⟩
    rw [← hbl, List.getElem?_map, List.getElem?_take] at hu
    split at hu
    · rename_i hj
      have hc1 := hcell j (by omega)
      rw [add_none] at hc1
      rw [hc1, ← hu, List.getD_eq_getElem?_getD, List.getElem?_eq_getElem (by omega)]
      rfl
    · simp at hu
end Go.Proofs.YtfhpaehfihnjaaaGreat.U
namespace Go.Proofs.YtfhpaehfihnjaaaGreat.U
open Go.ChangeShapes Go.WideShapes Go.ChangeAt Go.RowKit Go.Deep
abbrev CardV := Option Addr × List UInt8 × Nat
def cardV (x : CardV) : Value := .slice x.1 x.2.1.length x.2.2
def CardV.good (w : World) (B : Nat) (x : CardV) : Prop := At w B x.1 (Lib.byteCells x.2.1) ∧ x.2.1.length ≤ x.2.2 ∧ x.2.2 ≤ maxLen
theorem CardV.good.below {w w' : World} {B : Nat} {x : CardV} (h : CardV.good w B x) (hb : Below B w w') : CardV.good w' B x := ⟨h.1.below hb, h.2⟩
structure ActV where
  kind : UInt8
  op : Int
  data : CardV
  C : Option Addr
  cards : List CardV
  cc : Nat
def actCells (a : ActV) : List Value := [.int .u8 (a.kind.toNat : Int), .int .i64 a.op, cardV a.data, .slice a.C a.cards.length a.cc]
def ActV.good (w : World) (B : Nat) (a : ActV) : Prop := CardV.good w B a.data ∧ At w B a.C (a.cards.map cardV) ∧ a.cards.length ≤ a.cc ∧ a.cc ≤ maxLen ∧ ∀ x ∈ a.cards, CardV.good w B x
theorem ActV.good.below {w w' : World} {B : Nat} {a : ActV} (h : ActV.good w B a) (hb : Below B w w') : ActV.good w' B a := ⟨h.1.below hb, h.2.1.below hb, h.2.2.1, h.2.2.2.1, fun x hx => (h.2.2.2.2 x hx).below hb⟩
instance : Inhabited ActV := ⟨⟨0, 0, (none, [], 0), none, [], 0⟩⟩
theorem at_of_cells {w : World} {y : Addr} {us : List Value} (h : ∀ j, j < us.length → w.cell? (y.add j) = us[j]?) : At w w.heap.size (some y) us := by
  intro hne
  have hpos : 0 < us.length := List.length_pos_iff.2 hne
  have h0 := h 0 hpos
  rw [List.getElem?_eq_getElem hpos] at h0
  have hspot : y.spot = none := World.cell?_spot (a := y) (by simpa [Addr.add] using h0)
  obtain ⟨b, off, spot⟩ := y
  have hspot' : spot = none := hspot
  subst hspot'
  refine ⟨b, off, rfl, World.block_lt_of_cell? w ⟨b, off, none⟩ (by simpa [Addr.add] using h0), fun j u hu => ?_⟩
  have hj : j < us.length := (List.getElem?_eq_some_iff.1 hu).1
  have := h j hj
  rw [add_none] at this
  rw [this, hu]
section
variable {H : Type} {enc : TypeId × Value → H} {P : Program} {w : World} {base : Nat} {spare : Nat → Bool} {held : Bool}
theorem open_card {fuel : Nat} {t e : TypeId} {v : Value} {x : DataW H × List MemPlace} (ht : P.underlying t = some (.slice e)) (he : P.underlying e = some (.int .u8)) (hc : P.cellsOf e = 1) (h : DataW.trod enc P w base spare held fuel t [v] = some x) :
    ∃ c : CardV, v = cardV c ∧ CardV.good w w.heap.size c := by
  have hv : ∃ a len cap, v = .slice a len cap := by
    rcases open_slice1 ht hc h with ⟨hcs, _⟩ | ⟨a, len, cap, _, _, _, _, _, hcs, _⟩
    · exact ⟨_, _, _, (List.cons.inj hcs).1⟩
    · exact ⟨_, _, _, (List.cons.inj hcs).1⟩
  obtain ⟨a, len, cap, rfl⟩ := hv
  obtain ⟨l, rfl, h1, h2, h3⟩ := open_bytes ht he hc h
  exact ⟨(a, l, cap), rfl, h3, h1, h2⟩
theorem open_cards {fuel : Nat} {t e b : TypeId} {v : Value} {x : DataW H × List MemPlace} (ht : P.underlying t = some (.slice e)) (hce : P.cellsOf e = 1) (he : P.underlying e = some (.slice b)) (hb : P.underlying b = some (.int .u8)) (hcb : P.cellsOf b = 1)
    (h : DataW.trod enc P w base spare held fuel t [v] = some x) :
    ∃ (a : Option Addr) (xs : List CardV) (cap : Nat), v = .slice a xs.length cap ∧ xs.length ≤ cap ∧ cap ≤ maxLen ∧ At w w.heap.size a (xs.map cardV) ∧ ∀ x ∈ xs, CardV.good w w.heap.size x := by
  rcases open_slice1 ht hce h with ⟨hcs, _⟩ | ⟨a, len, cap, m, n, V, D, Pl, hcs, _, hl, hm, hmm, _, hx⟩
  · exact ⟨none, [], 0, (List.cons.inj hcs).1, Nat.le_refl _, Nat.zero_le _, At.nil_, by simp⟩
  · have hlm : len ≤ m := by rw [hmm]; split <;> omega
    obtain ⟨f, hf⟩ := choose_lt (α := CardV) (n := len) (p := fun i c => V i = cardV c ∧ CardV.good w w.heap.size c) (fun i hi => by
      obtain ⟨_, h2⟩ := hx i (by omega)
      exact open_card he hb hcb h2)
    refine ⟨some a, (List.range len).map f, cap, by rw [(List.cons.inj hcs).1]; simp, by simpa using hl, hm, at_of_cells fun j hj => ?_, ?_⟩
    · simp only [List.length_map, List.length_range] at hj
      rw [(hx j (by omega)).1, (hf j hj).1]
      simp [hj]
    · intro x hx
      simp only [List.mem_map, List.mem_range] at hx
      obtain ⟨i, hi, rfl⟩ := hx
      exact (hf i hi).2
theorem list_4 {α : Type} {l : List α} (h : l.length = 4) : ∃ a b c d, l = [a, b, c, d] := by
  match l, h with
  | [a, b, c, d], _ => exact ⟨a, b, c, d, rfl⟩
theorem open_acts {fuel : Nat} {t e : TypeId} {fs : Array Field} {t0 t1 t2 t3 tb : TypeId} {v : Value} {x : DataW H × List MemPlace} (ht : P.underlying t = some (.slice e)) (he : P.underlying e = some (.struct fs)) (hc : P.cellsOf e = 4) (hone : oneCellFields P fs = true)
    (hf0 : ∃ f, fs[0]? = some f ∧ f.type = t0) (hf1 : ∃ f, fs[1]? = some f ∧ f.type = t1) (hf2 : ∃ f, fs[2]? = some f ∧ f.type = t2) (hf3 : ∃ f, fs[3]? = some f ∧ f.type = t3)
    (h0 : P.underlying t0 = some (.int .u8)) (h1 : P.underlying t1 = some (.int .i64)) (h2 : P.underlying t2 = some (.slice tb)) (hb : P.underlying tb = some (.int .u8)) (hcb : P.cellsOf tb = 1) (h3 : P.underlying t3 = some (.slice t2)) (hc2 : P.cellsOf t2 = 1)
    (h : DataW.trod enc P w base spare held fuel t [v] = some x) :
    ∃ (a : Option Addr) (xs : List ActV) (cap : Nat), v = .slice a xs.length cap ∧ xs.length ≤ cap ∧ cap ≤ maxLen ∧ At w w.heap.size a (xs.flatMap actCells) ∧ ∀ x ∈ xs, ActV.good w w.heap.size x := by
  rcases open_slice ht h with ⟨hcs, _⟩ | ⟨a, len, cap, m, n, D, Pl, hcs, _, hl, hm, hmm, _, hx⟩
  · exact ⟨none, [], 0, (List.cons.inj hcs).1, Nat.le_refl _, Nat.zero_le _, At.nil_, by simp⟩
  · have hlm : len ≤ m := by rw [hmm]; split <;> omega
    rw [hc] at hx
    obtain ⟨f, hf⟩ := choose_lt (α := ActV) (n := len) (p := fun i c => w.cells? base (a.add (i * 4)) 4 = some (actCells c) ∧ ActV.good w w.heap.size c) (fun i hi => by
      obtain ⟨cs', h4, h5⟩ := hx i (by omega)
      obtain ⟨xs, n', _, _, hcl, hlen, hg⟩ := DataW.trod_struct he h5
      rw [hc] at hcl
      obtain ⟨u0, u1, u2, u3, rfl⟩ := list_4 hcl
      obtain ⟨f0, e0, rfl⟩ := hf0
      obtain ⟨f1, e1, rfl⟩ := hf1
      obtain ⟨f2, e2, rfl⟩ := hf2
      obtain ⟨f3, e3, rfl⟩ := hf3
      have hfs : 4 ≤ fs.size := (Array.getElem?_eq_some_iff.1 e3).1
      have g0 := hg 0 f0 e0
      have g1 := hg 1 f1 e1
      have g2 := hg 2 f2 e2
      have g3 := hg 3 f3 e3
      rw [(hone_of hone 0 f0 e0).1, (hone_of hone 0 f0 e0).2, List.getElem?_eq_getElem (by omega)] at g0
      rw [(hone_of hone 1 f1 e1).1, (hone_of hone 1 f1 e1).2, List.getElem?_eq_getElem (by omega)] at g1
      rw [(hone_of hone 2 f2 e2).1, (hone_of hone 2 f2 e2).2, List.getElem?_eq_getElem (by omega)] at g2
      rw [(hone_of hone 3 f3 e3).1, (hone_of hone 3 f3 e3).2, List.getElem?_eq_getElem (by omega)] at g3
      simp only [List.drop_zero, List.drop_succ_cons, List.take_succ_cons, List.take_zero] at g0 g1 g2 g3
      obtain ⟨z0, q0, _, w0⟩ := DataW.trod_int h0 g0
      obtain ⟨k0, rfl⟩ := u8_of_wf w0
      obtain ⟨z1, q1, _, w1⟩ := DataW.trod_int h1 g1
      obtain ⟨c2, rfl, G2⟩ := open_card h2 hb hcb g2
      obtain ⟨C, cards, cc, rfl, G3⟩ := open_cards h3 hc2 h2 hb hcb g3
      obtain rfl := (List.cons.inj q0).1
      obtain rfl := (List.cons.inj q1).1
      exact ⟨⟨k0, z1, c2, C, cards, cc⟩, h4, G2, G3.2.2.1, G3.1, G3.2.1, G3.2.2.2⟩)
    refine ⟨some a, (List.range len).map f, cap, by rw [(List.cons.inj hcs).1]; simp, by simpa using hl, hm, at_of_cells fun j hj => ?_, ?_⟩
    · have hlen : ∀ l : List ActV, (l.flatMap actCells).length = l.length * 4 := by
        intro l; induction l with
        | nil => rfl
        | cons x l ih => simp [actCells, ih]; omega
      rw [hlen, List.length_map, List.length_range] at hj
      have hget : ∀ (l : List ActV) (j : Nat), (l.flatMap actCells)[j]? = (l[j / 4]?).bind fun a => (actCells a)[j % 4]? := by
        intro l
        induction l with
        | nil => intro j; simp
        | cons x l ih =>
          intro j
          rw [List.flatMap_cons]
          by_cases hj : j < 4
          · rw [List.getElem?_append_left (by simpa [actCells] using hj), Nat.div_eq_of_lt hj, Nat.mod_eq_of_lt hj]; rfl
          · rw [List.getElem?_append_right (by simp [actCells]; omega), ih, show (actCells x).length = 4 from rfl, show j / 4 = (j - 4) / 4 + 1 by omega, show (j - 4) % 4 = j % 4 by omega]; rfl
      rw [hget, List.getElem?_map, List.getElem?_range (by omega)]
      have hji : j / 4 < len := by omega
      have := (World.cells?_some (hf (j / 4) hji).1).2.2 (j % 4) (by omega)
      rw [add_add, show j / 4 * 4 + j % 4 = j by omega] at this
      exact this
    · intro x hx
      simp only [List.mem_map, List.mem_range] at hx
      obtain ⟨i, hi, rfl⟩ := hx
      exact (hf i hi).2
end
end Go.Proofs.YtfhpaehfihnjaaaGreat.U
namespace Go.Proofs.YtfhpaehfihnjaaaGreat.U
open Go.RowKit
section
variable {W w w' : World} {F : List SA}
theorem deck_cell {A : Option Addr} {n c : Nat} {cs : List (List UInt8)} (S : SL W (deckS (.slice A n c) cs :: F) w) {j : Nat} {x : List UInt8} (hj : cs[j]? = some x) :
    ∃ b A' c', A = some ⟨b, 0, none⟩ ∧ w.cell? ⟨b, j, none⟩ = some (.slice A' x.length c') ∧ At w w.heap.size A' (Lib.byteCells x) ∧ x.length ≤ c' ∧ c' ≤ maxLen := by
  obtain ⟨ps, rfl, S8⟩ := deckS_open S
  have hn : n = ps.length := by obtain ⟨_, _, e, _⟩ := own_slice S8.own; injection e
  subst hn
  rw [List.getElem?_map] at hj
  cases hp : ps[j]? with
  | none => rw [hp] at hj; cases hj
  | some p =>
    rw [hp] at hj
    injection hj with hj
    subst hj
    obtain ⟨b7, rfl, _, c7⟩ := S8.cellAt (j := j) (u := p.1) (by rw [List.getElem?_map, hp]; rfl)
    have S9 := SL.take S8.s1 (i := j) (P := cardS p) (by rw [List.getElem?_map, hp]; rfl)
    unfold cardS at S9
    obtain ⟨A8, c8, e8, h8, h9⟩ := own_slice S9.own
    rw [e8] at S9 c7
    exact ⟨b7, A8, c8, rfl, c7, S9.at_, h8, h9⟩
theorem deck_len {v : Value} {cs : List (List UInt8)} (S : SL W (deckS v cs :: F) w) : ∃ A c, v = .slice A cs.length c ∧ cs.length ≤ c ∧ c ≤ maxLen := by
  obtain ⟨ps, rfl, S8⟩ := deckS_open S
  rw [List.length_map]
  exact own_slice S8.own
theorem star_mem : ∀ {L : List SA} {P : SA} {h : Hp}, star L h → P ∈ L → ∃ h1, P h1 ∧ Hp.le h1 h
  | a :: L, P, h, ⟨h1, h2, p, q, _, l1, l2⟩, m => by
    rcases List.mem_cons.1 m with rfl | m
    · exact ⟨h1, p, l1⟩
    · obtain ⟨h3, p3, l3⟩ := star_mem q m
      exact ⟨h3, p3, Hp.le_trans l3 l2⟩
theorem _root_.Go.Proofs.YtfhpaehfihnjaaaGreat.SL.lose {P : SA} {T : Nat → Prop} (S : SL W (P :: F) w) (hf : Fr T w w') (hT : ∀ h, P h → ∀ b, T b → ∃ o, h b = some o) : SL W F w' :=
  SL.drop (SL.frame (Q := fun _ => True) S (fun h p _ b _ t => hT h p b t) hf fun _ _ _ => ⟨fun _ => none, trivial, by intro b o e; cases e⟩)
theorem deck_two {v1 v2 : Value} {l1 l2 : List UInt8} (S : SL W (rowS 5 1 v1 l1.length (Lib.byteCells l1) :: rowS 5 1 v2 l2.length (Lib.byteCells l2) :: F) w) :
    SL W (deckS (.slice (some ⟨w.heap.size, 0, none⟩) 2 2) [l1, l2] :: F) (w.alloc (.cells #[v1, v2] 50)) :=
  deckS_close (ps := [(v1, l1), (v2, l2)]) ((SL.app (L := [cardS (v1, l1), cardS (v2, l2)]) S).lit #[v1, v2] 50 1 2 rfl (by decide))
end
end Go.Proofs.YtfhpaehfihnjaaaGreat.U
namespace Go.Proofs.YtfhpaehfihnjaaaGreat.U
open Go.RowKit
def DeckRd (W : World) (F : List SA) (A : Option Addr) (cs : List (List UInt8)) : Prop :=
  ∃ (b off : Nat) (f : Nat → Option Addr × Nat), ∀ w, SL W F w → ∀ (j : Nat) (x : List UInt8), cs[j]? = some x → A = some ⟨b, off, none⟩ ∧ w.cell? ⟨b, off + j, none⟩ = some (.slice (f j).1 x.length (f j).2) ∧ At w w.heap.size (f j).1 (Lib.byteCells x) ∧ x.length ≤ (f j).2 ∧ (f j).2 ≤ maxLen
theorem DeckRd.get {W : World} {F : List SA} {A : Option Addr} {cs : List (List UInt8)} (h : DeckRd W F A cs) (w : World) (S : SL W F w) (j : Nat) (x : List UInt8) (hj : cs[j]? = some x) :
    ∃ b off A' c', A = some ⟨b, off, none⟩ ∧ w.cell? ⟨b, off + j, none⟩ = some (.slice A' x.length c') ∧ At w w.heap.size A' (Lib.byteCells x) ∧ x.length ≤ c' ∧ c' ≤ maxLen := by
  obtain ⟨b, off, f, h⟩ := h
  exact ⟨b, off, _, _, h w S j x hj⟩
theorem DeckRd.fix {W : World} {F : List SA} {A : Option Addr} {cs : List (List UInt8)} (h : DeckRd W F A cs) (w0 : World) (S0 : SL W F w0) (j : Nat) (x : List UInt8) (hj : cs[j]? = some x) :
    ∃ b off A' c', A = some ⟨b, off, none⟩ ∧ x.length ≤ c' ∧ c' ≤ maxLen ∧ ∀ w, SL W F w → w.cell? ⟨b, off + j, none⟩ = some (.slice A' x.length c') ∧ At w w.heap.size A' (Lib.byteCells x) := by
  obtain ⟨b, off, f, h⟩ := h
  obtain ⟨h1, _, _, h4, h5⟩ := h w0 S0 j x hj
  exact ⟨b, off, _, _, h1, h4, h5, fun w S => ⟨(h w S j x hj).2.1, (h w S j x hj).2.2.1⟩⟩
theorem DeckRd.own {W : World} {F : List SA} {A : Option Addr} {n c : Nat} {ps : List (Value × List UInt8)} (f : ∀ w, SL W F w → ∃ r, SL W (rowS 50 1 (.slice A n c) n (ps.map Prod.fst) :: star (ps.map cardS) :: r) w) : DeckRd W F A (ps.map Prod.snd) := by
  refine ⟨(A.map fun a => a.block).getD 0, 0, fun j => match ps[j]? with | some (.slice B _ c', _) => (B, c') | _ => (none, 0), fun w S j x hj => ?_⟩
  obtain ⟨r, S8⟩ := f w S
  rw [List.getElem?_map] at hj
  cases hp : ps[j]? with
  | none => rw [hp] at hj; cases hj
  | some p =>
    rw [hp] at hj; injection hj with hj; subst hj
    obtain ⟨b7, rfl, _, c7⟩ := S8.cellAt (j := j) (u := p.1) (by rw [List.getElem?_map, hp]; rfl)
    have S9 := SL.take S8.s1 (i := j) (P := cardS p) (by rw [List.getElem?_map, hp]; rfl)
    unfold cardS at S9
    obtain ⟨A8, c8, e8, h8, h9⟩ := own_slice S9.own
    obtain ⟨v, y⟩ := p
    dsimp only at e8
    subst e8
    simp only [hp, Nat.zero_add]
    exact ⟨rfl, c7, S9.at_, h8, h9⟩
theorem DeckRd.base {W : World} {F : List SA} {A : Option Addr} {l : List CardV} (h : At W W.heap.size A (l.map cardV)) (hg : ∀ x ∈ l, CardV.good W W.heap.size x) : DeckRd W F A (l.map fun x => x.2.1) := by
  refine ⟨(A.map fun a => a.block).getD 0, (A.map fun a => a.off).getD 0, fun j => match l[j]? with | some y => (y.1, y.2.2) | none => (none, 0), fun w S j x hj => ?_⟩
  rw [List.getElem?_map] at hj
  cases hl : l[j]? with
  | none => rw [hl] at hj; cases hj
  | some y =>
    rw [hl] at hj; injection hj with hj; subst hj
    obtain ⟨b, off, rfl, hb, hc⟩ := h.cell (k := j) (u := cardV y) (by simp [hl])
    have hy := hg y (List.mem_iff_getElem?.2 ⟨j, hl⟩)
    simp only [hl]
    exact ⟨rfl, (S.1.cell (p := ⟨b, off + j, none⟩) hb).trans hc, (hy.1.below S.1).mono S.1.size, hy.2.1, hy.2.2⟩
theorem DeckRd.cons {W : World} {F : List SA} {P : SA} {A : Option Addr} {cs : List (List UInt8)} (h : DeckRd W F A cs) : DeckRd W (P :: F) A cs := by
  obtain ⟨b, off, f, h⟩ := h
  exact ⟨b, off, f, fun w S => h w S.drop⟩
def readerS (rb se tk st : Nat) (cs : List (List UInt8)) : SA := fun h => ∃ v, True ∧ star [cel rb #[.int .i64 (se : Int), v, .int .i64 (tk : Int), .int .i64 (st : Int)] 149, deckS v cs] h
def addErr (cs ds : List (List UInt8)) : Int := if 4096 < cs.length + ds.length then 2 else if ds.all (fun x => decide (x.length = 80)) then 0 else 5
def addCs (cs ds : List (List UInt8)) : List (List UInt8) := if addErr cs ds = 0 then cs ++ ds else cs
section
variable {W w : World} {F : List SA}
theorem readerS_open {rb se tk st : Nat} {cs : List (List UInt8)} (S : SL W (readerS rb se tk st cs :: F) w) : ∃ v, True ∧ SL W (cel rb #[.int .i64 (se : Int), v, .int .i64 (tk : Int), .int .i64 (st : Int)] 149 :: deckS v cs :: F) w :=
  S.unpack (K := fun v => [cel rb #[.int .i64 (se : Int), v, .int .i64 (tk : Int), .int .i64 (st : Int)] 149, deckS v cs]) fun _ h => h
theorem readerS_close {rb se tk st : Nat} {cs : List (List UInt8)} {v : Value} (S : SL W (cel rb #[.int .i64 (se : Int), v, .int .i64 (tk : Int), .int .i64 (st : Int)] 149 :: deckS v cs :: F) w) : SL W (readerS rb se tk st cs :: F) w :=
  SL.pack (L := [cel rb #[.int .i64 (se : Int), v, .int .i64 (tk : Int), .int .i64 (st : Int)] 149, deckS v cs]) S fun _ h => ⟨v, trivial, h⟩
theorem deckS_push' {v' : Value} {n : Nat} {ps : List (Value × List UInt8)} {x : Value} {l : List UInt8} (hn : n = ps.length + 1)
    (S : SL W (rowS 5 1 x l.length (Lib.byteCells l) :: star (ps.map cardS) :: rowS 50 1 v' n (ps.map Prod.fst ++ [x]) :: F) w) : SL W (deckS v' (ps.map Prod.snd ++ [l]) :: F) w := by
  have S10 := SL.snoc (P := cardS (x, l)) S
  have e1 : ps.map Prod.snd ++ [l] = (ps ++ [(x, l)]).map Prod.snd := by simp
  rw [e1]
  refine deckS_close' (n := n) (by simp [hn]) ?_
  simp only [List.map_append, List.map_cons, List.map_nil]
  exact S10.s1
theorem radd_nil (v : Value) (w : World) : Calls Tryz.prog 49 #[.pointer none, v] w fun e w' => e = .returned (.int .i64 9) ∧ w = w' := by
  go_enter Tryz.func49, Tryz.ntmps49
  go_wp2
  go_ret
  exact ⟨rfl, rfl⟩
set_option maxHeartbeats 2000000 in
theorem radd_long (rb se tk st : Nat) (cs : List (List UInt8)) (A : Option Addr) (n c : Nat) (S : SL W (readerS rb se tk st cs :: F) w) (hcs : cs.length ≤ 4096) (hn : n ≤ maxLen) (h : 4096 < cs.length + n) :
    Calls Tryz.prog 49 #[.pointer (some ⟨rb, 0, none⟩), .slice A n c] w fun e w' => e = .returned (.int .i64 2) ∧ w = w' := by
  unfold maxLen at hn
  obtain ⟨v, _, S⟩ := readerS_open S
  obtain ⟨Av, cv, rfl, _, _⟩ := deck_len S.s1
  obtain ⟨L, K, z⟩ := S.look
  have h2 : (4096 : Int) - (cs.length : Int) < (n : Int) := by omega
  have h3 : (0 : Int) ≤ 4096 - (cs.length : Int) := by omega
  clear S h
  go_enter Tryz.func49, Tryz.ntmps49
  go_wp2
  go_ret
  exact ⟨rfl, rfl⟩
set_option maxHeartbeats 2000000 in
theorem radd_form (rb se tk st : Nat) (cs ds : List (List UInt8)) (A : Option Addr) (c : Nat) (S : SL W (readerS rb se tk st cs :: F) w) (hr : DeckRd W F A ds) (hcs : cs.length ≤ 4096) (h : cs.length + ds.length ≤ 4096) (h8 : ds.all (fun x => decide (x.length = 80)) = false) :
    Calls Tryz.prog 49 #[.pointer (some ⟨rb, 0, none⟩), .slice A ds.length c] w fun e w' => e = .returned (.int .i64 5) ∧ w = w' := by
  have HR := Lib.hid (hr.get w S.drop)
  obtain ⟨v, _, S⟩ := readerS_open S
  obtain ⟨Av, cv, rfl, _, _⟩ := deck_len S.s1
  obtain ⟨L, K, z⟩ := S.look
  have h2 : ¬ (4096 : Int) - (cs.length : Int) < (ds.length : Int) := by omega
  have H8 := Lib.hid h8
  clear S hr h8
  go_enter Tryz.func49, Tryz.ntmps49
  go_wp2_with fail
  go_loop [22] (fun i => ∃ k : Nat, k ≤ ds.length ∧ i = .int .i64 k ∧ ∀ j x, j < k → ds[j]? = some x → x.length = 80) (fun i => ds.length - (intOf i).toNat)
  case atStart => exact ⟨0, Nat.zero_le _, rfl, by intro j x h; omega⟩
  case round =>
    obtain ⟨k, hk, rfl, hall⟩ := hrel
    have HA := Lib.hid hall
    clear hall
    by_cases hlt : k < ds.length
    · obtain ⟨b, off, A', c', rfl, hc, _, h1, h3⟩ := HR.out k ds[k] (by simp [hlt])
      have HG := Lib.hid (show ds[k]? = some ds[k] by simp [hlt])
      generalize ds[k] = x at *
      unfold maxLen at h3
      by_cases h80 : x.length = 80
      · go_wp2
        go_round
        case rel =>
          refine ⟨k + 1, by omega, by go_num, fun j y hj hy => ?_⟩
          rcases Nat.lt_or_ge j k with h | h
          · exact HA.out j y h hy
          · obtain rfl : j = k := by omega
            rw [HG.out] at hy; injection hy with hy; subst hy; exact h80
        case measure => simp [intOf]; omega
      · have h81 : ¬ (x.length : Int) = 80 := by omega
        go_wp2
        go_ret
        exact ⟨rfl, rfl⟩
    · exfalso
      have h := H8.out
      rw [List.all_eq_false] at h
      obtain ⟨x, hx, hn⟩ := h
      obtain ⟨j, hj, rfl⟩ := List.mem_iff_getElem.1 hx
      exact hn (by simpa using HA.out j ds[j] (by omega) (by simp [hj]))
set_option maxHeartbeats 2000000 in
theorem radd_ok (rb se tk st : Nat) (cs ds : List (List UInt8)) (A : Option Addr) (c : Nat) (S : SL W (readerS rb se tk st cs :: F) w) (hr : DeckRd W F A ds) (hcs : cs.length ≤ 4096) (h : cs.length + ds.length ≤ 4096) (h8 : ds.all (fun x => decide (x.length = 80)) = true) :
    Calls Tryz.prog 49 #[.pointer (some ⟨rb, 0, none⟩), .slice A ds.length c] w fun e w' => e = .returned (.int .i64 0) ∧ SL W (readerS rb se tk st (cs ++ ds) :: F) w' := by
  have HR := Lib.hid hr
  have HS := Lib.hid S
  have h80 : ∀ x ∈ ds, x.length = 80 := fun x hx => by simpa using List.all_eq_true.1 h8 x hx
  obtain ⟨v, _, S⟩ := readerS_open S
  obtain ⟨Av, cv, rfl, _, _⟩ := deck_len S.s1
  obtain ⟨L, K, z⟩ := S.look
  have h2 : ¬ (4096 : Int) - (cs.length : Int) < (ds.length : Int) := by omega
  have H8 := Lib.hid h80
  clear S hr h8 h80
  go_enter Tryz.func49, Tryz.ntmps49
  go_wp2_with fail
  go_loop [22] (fun i => ∃ k : Nat, k ≤ ds.length ∧ i = .int .i64 k) (fun i => ds.length - (intOf i).toNat)
  case atStart => exact ⟨0, Nat.zero_le _, rfl⟩
  case round =>
    obtain ⟨k, hk, rfl⟩ := hrel
    by_cases hlt : k < ds.length
    · obtain ⟨b, off, A', c', rfl, hc, _, h1, h3⟩ := HR.out.get _ HS.out.drop k ds[k] (by simp [hlt])
      rw [H8.out ds[k] (List.getElem_mem hlt)] at hc
      clear h1 h3
      go_wp2
      go_round
      case rel => exact ⟨k + 1, by omega, by go_num⟩
      case measure => simp [intOf]; omega
    · clear L K z
      go_wp2_with fail
      go_loopw [32] (fun i wr => ∃ k : Nat, k ≤ ds.length ∧ i = .int .i64 k ∧ SL W (readerS rb se tk st (cs ++ ds.take k) :: F) wr) (fun i _ => ds.length - (intOf i).toNat)
      case atStart => exact ⟨0, Nat.zero_le _, rfl, by simpa using HS.out⟩
      case round =>
        obtain ⟨k, hk, rfl, S1⟩ := hrel
        clear HS
        by_cases hlt : k < ds.length
        · obtain ⟨b, off, A', c', rfl, hc, ha, h1, h3⟩ := HR.out.get _ S1.drop k ds[k] (by simp [hlt])
          have hx80 := H8.out ds[k] (List.getElem_mem hlt)
          have HT := Lib.hid (show (cs ++ ds.take k) ++ [ds[k]] = cs ++ ds.take (k + 1) by rw [List.take_succ_eq_append_getElem hlt, List.append_assoc])
          have hlen : (cs ++ ds.take k).length = cs.length + k := by simp; omega
          generalize ds[k] = x at *
          rw [hx80] at hc h1
          obtain ⟨v1, _, S2⟩ := readerS_open S1
          obtain ⟨ps, hps, S3⟩ := deckS_open S2.s1
          have hpl : ps.length = cs.length + k := by rw [← hlen, ← hps, List.length_map]
          obtain ⟨Av1, cv1, rfl, _, _⟩ := own_slice S3.own
          have hpb : ps.length ≤ 4096 := by omega
          have HX := Lib.hid (And.intro hx80 (And.intro hps hpl))
          have HAT := Lib.hid ha
          have H3 := Lib.hid S3
          clear hps hpl hlen hx80 ha S1 S2 S3 h1 h3
          go_wp2_with fail
          refine wp_region_order2 (fun wx => wx = wr.drew) (SL W [cel rb #[.int .i64 (se : Int), .slice Av1 ps.length cv1, .int .i64 (tk : Int), .int .i64 (st : Int)] 149]) (fun wx e => SL.cast e H3.out.s2.only.drew) [0, 1, 2, 3, 5] [4] [] [6, 7, 8] [9, 10, 11] (by kernel_rfl) (by kernel_rfl) rfl (by intro c a d v w h; cases d <;> exact h) ?_
          simp only [pick, List.filterMap_cons, List.filterMap_nil, List.getElem?_cons_zero, List.getElem?_cons_succ]
          (repeat (refine wpPure_step (fun K hK => ?_); go_simp; refine hK _ ?_; clear hK K)); refine wpPure_nil ?_
          (repeat (refine wpLoads_step (fun K hK => ?_); go_simp; first | (refine hK _ ?_; clear hK K) | (refine ⟨_, fun wx hx => (by obtain ⟨f0, f1, f2⟩ := hx.look; go_simp; rfl), hK _ ?_⟩; clear hK K))); refine wpLoads_nil (wpQuiet_nil ?_)
          intro wq hwq
          subst hwq
          refine wpKeep_step (fun K hK => ?_)
          refine step_appS (by rfl) _ _ _ (by rfl) bElem (.slice none 0 0) 0 [] (by rfl) (H3.out.drew.nil _ _) wr.heap.size A' x.length c' (Lib.byteCells x) (by rw [HX.out.1]; rfl) HAT.out (by rw [byteCells_len, Nat.mul_one]) (byteCells_one _) (by rw [HX.out.1]; decide) (by rw [HX.out.1]; omega) ?_
          intro A5 c5 w5 S5
          simp only [Nat.zero_add, List.nil_append] at S5
          simp only [Nat.zero_add]
          have H5 := Lib.hid S5
          refine hK _ _ S5.s3.only ?_
          clear hK K S5 H3
          (refine wpKeep_step ?_; intro K hK; go_simp)
          refine hK _ _ (H5.out.allocC _ _).s4.only ?_
          clear hK K
          refine wpKeep_step (fun K hK => ?_)
          refine step_pushS (by rfl) _ _ _ (by rfl) deckElem w5 [.slice A5 x.length c5] 1 (by rfl) rfl (by simp [Value.oneCell']) _ ps.length _ (by rfl) (by rfl) H5.out.s1 (by unfold maxLen; omega) (by omega) ?_
          intro A6 c6 w6 S6
          have H6 := Lib.hid S6
          refine hK _ _ S6.s3.only ?_
          clear hK K S6 H5
          refine wpKeep_nil ?_
          obtain ⟨L6, K6, z6⟩ := H6.out.s3.look
          go_wp2
          go_roundw
          case rel =>
            refine ⟨k + 1, by omega, by go_num, ?_⟩
            rw [← HT.out, ← HX.out.2.1]
            have S7 := H6.out.s3.set (off := 1) (v := .slice A6 (ps.length + 1) c6) (cs' := #[.int .i64 (se : Int), .slice A6 (ps.length + 1) c6, .int .i64 (tk : Int), .int .i64 (st : Int)]) rfl
            exact readerS_close (deckS_push' rfl S7.s1.s3.s3).s1
          case measure => simp [intOf]; omega
        · obtain rfl : k = ds.length := by omega
          go_wp2
          go_ret
          exact ⟨rfl, by simpa using S1⟩
end
end Go.Proofs.YtfhpaehfihnjaaaGreat.U
namespace Go.Proofs.YtfhpaehfihnjaaaGreat.U
open Go.RowKit
section
variable {W w : World} {F : List SA}
theorem rowCell {e : TypeId} {size n k b : Nat} {xs : List Value} {r : List SA} (S : SL W (rowS e size (.slice (some ⟨b, 0, none⟩) n k) n xs :: r) w) {j : Nat} {u : Value} (hj : xs[j]? = some u) : w.cell? ⟨b, j, none⟩ = some u := by
  obtain ⟨b', e, _, h⟩ := S.cellAt hj
  injection e with e; injection e with e
  subst e
  exact h
theorem deckS_eq {v : Value} {cs ds : List (List UInt8)} (e : cs = ds) (S : SL W (deckS v cs :: F) w) : SL W (deckS v ds :: F) w := e ▸ S
theorem radd_any (rb se tk st : Nat) (cs ds : List (List UInt8)) (A : Option Addr) (c : Nat) (S : SL W (readerS rb se tk st cs :: F) w) (hr : DeckRd W F A ds) (hcs : cs.length ≤ 4096) (hd : ds.length ≤ maxLen) :
    Calls Tryz.prog 49 #[.pointer (some ⟨rb, 0, none⟩), .slice A ds.length c] w fun e w' => e = .returned (.int .i64 (addErr cs ds)) ∧ SL W (readerS rb se tk st (addCs cs ds) :: F) w' := by
  unfold addCs addErr
  by_cases h1 : 4096 < cs.length + ds.length
  · rw [if_pos h1]
    refine (radd_long rb se tk st cs A ds.length c S hcs hd h1).mono ?_
    rintro e w' ⟨rfl, rfl⟩
    exact ⟨rfl, by simpa using S⟩
  · rw [if_neg h1]
    cases h2 : ds.all (fun x => decide (x.length = 80))
    · refine (radd_form rb se tk st cs ds A c S hr hcs (by omega) h2).mono ?_
      rintro e w' ⟨rfl, rfl⟩
      exact ⟨rfl, by simpa using S⟩
    · refine (radd_ok rb se tk st cs ds A c S hr hcs (by omega) h2).mono ?_
      rintro e w' ⟨rfl, S'⟩
      exact ⟨rfl, by simpa using S'⟩
def RNew (W : World) (F : List SA) (ds : List (List UInt8)) (er : Int) (e : Ending) (w' : World) : Prop :=
  (er = 0 → ∃ rb, e = .returned (.tuple #[.pointer (some ⟨rb, 0, none⟩), .int .i64 0]) ∧ SL W (readerS rb 0 0 0 ds :: F) w') ∧
  (er ≠ 0 → e = .returned (.tuple #[.pointer none, .int .i64 er]) ∧ SL W F w')
set_option maxHeartbeats 2000000 in
theorem rnew_any (ds : List (List UInt8)) (A : Option Addr) (c : Nat) (S : SL W F w) (hr : DeckRd W F A ds) (hd : ds.length ≤ maxLen) :
    Calls Tryz.prog 57 #[.slice A ds.length c] w (RNew W F ds (addErr [] ds)) := by
  have HA := Lib.hid (fun rb (w1 : World) (S1 : SL W (readerS rb 0 0 0 [] :: F) w1) => radd_any rb 0 0 0 [] ds A c S1 hr (by simp) hd)
  have HS := Lib.hid S
  clear S hr
  have hcs : addErr [] ds = 0 → addCs [] ds = ds := fun h => by unfold addCs; rw [if_pos h]; rfl
  have HCS := Lib.hid hcs
  clear hcs
  generalize addCs [] ds = xs at *
  have ht : addErr [] ds = 0 ∨ ((addErr [] ds) != 0) = true := by
    by_cases h : addErr [] ds = 0
    · exact Or.inl h
    · exact Or.inr (by simpa using h)
  generalize addErr [] ds = er at *
  go_enter Tryz.func57, Tryz.ntmps57
  go_wp2_with fail
  refine (HA.out _ _ (readerS_close (deckS_close (ps := []) ((HS.out.allocC #[.int .i64 (0 : Nat), .slice none 0 0, .int .i64 (0 : Nat), .int .i64 (0 : Nat)] 149).empty.nil _ _)).s1)).mono ?_
  rintro e w1 ⟨rfl, S1⟩
  have H1 := Lib.hid S1
  clear S1
  rcases ht with h0 | ht
  · have hx := HCS.out h0
    rw [hx] at H1
    subst h0
    clear hx HCS
    go_wp2
    go_ret2
    exact ⟨fun _ => ⟨_, rfl, H1.out⟩, fun h => absurd rfl h⟩
  · go_wp2
    go_ret2
    exact ⟨fun h => by simp [h] at ht, fun h => ⟨rfl, H1.out.drop⟩⟩
set_option maxHeartbeats 1000000 in
theorem rcards_any (rb se tk st : Nat) (cs : List (List UInt8)) (S : SL W (readerS rb se tk st cs :: F) w) :
    Calls Tryz.prog 33 #[.pointer (some ⟨rb, 0, none⟩)] w fun e w' => e = .returned (.int .i64 (cs.length : Int)) ∧ w = w' := by
  obtain ⟨v, _, S⟩ := readerS_open S
  obtain ⟨Av, cv, rfl, _, _⟩ := deck_len S.s1
  obtain ⟨L, K, z⟩ := S.look
  clear S
  go_enter Tryz.func33, Tryz.ntmps33
  go_wp2
  go_ret
  exact ⟨rfl, rfl⟩
set_option maxHeartbeats 1000000 in
theorem rtaken_any (rb se tk st : Nat) (cs : List (List UInt8)) (S : SL W (readerS rb se tk st cs :: F) w) :
    Calls Tryz.prog 34 #[.pointer (some ⟨rb, 0, none⟩)] w fun e w' => e = .returned (.int .i64 (tk : Int)) ∧ w = w' := by
  obtain ⟨v, _, S⟩ := readerS_open S
  obtain ⟨L, K, z⟩ := S.look
  clear S
  go_enter Tryz.func34, Tryz.ntmps34
  go_wp2
  go_ret
  exact ⟨rfl, rfl⟩
set_option maxHeartbeats 1000000 in
theorem rstacked_any (rb se tk st : Nat) (cs : List (List UInt8)) (S : SL W (readerS rb se tk st cs :: F) w) :
    Calls Tryz.prog 35 #[.pointer (some ⟨rb, 0, none⟩)] w fun e w' => e = .returned (.int .i64 (st : Int)) ∧ w = w' := by
  obtain ⟨v, _, S⟩ := readerS_open S
  obtain ⟨L, K, z⟩ := S.look
  clear S
  go_enter Tryz.func35, Tryz.ntmps35
  go_wp2
  go_ret
  exact ⟨rfl, rfl⟩
theorem rcards_nil (w : World) : Calls Tryz.prog 33 #[.pointer none] w fun e w' => e = .returned (.int .i64 0) ∧ w = w' := by
  go_enter Tryz.func33, Tryz.ntmps33
  go_wp2
  go_ret
  exact ⟨rfl, rfl⟩
theorem rtaken_nil (w : World) : Calls Tryz.prog 34 #[.pointer none] w fun e w' => e = .returned (.int .i64 0) ∧ w = w' := by
  go_enter Tryz.func34, Tryz.ntmps34
  go_wp2
  go_ret
  exact ⟨rfl, rfl⟩
theorem rstacked_nil (w : World) : Calls Tryz.prog 35 #[.pointer none] w fun e w' => e = .returned (.int .i64 0) ∧ w = w' := by
  go_enter Tryz.func35, Tryz.ntmps35
  go_wp2
  go_ret
  exact ⟨rfl, rfl⟩
theorem rpower_nil (w : World) : Calls Tryz.prog 190 #[.pointer none] w fun e w' => e = .returned (.tuple #[]) ∧ w = w' := by
  go_enter Tryz.func190, Tryz.ntmps190
  go_wp2
  go_end0
  exact ⟨rfl, rfl⟩
set_option maxHeartbeats 1000000 in
theorem rpower_any (rb se tk st : Nat) (cs : List (List UInt8)) (S : SL W (readerS rb se tk st cs :: F) w) :
    Calls Tryz.prog 190 #[.pointer (some ⟨rb, 0, none⟩)] w fun e w' => e = .returned (.tuple #[]) ∧ SL W (readerS rb 0 st st cs :: F) w' := by
  obtain ⟨v, _, S⟩ := readerS_open S
  obtain ⟨L, K, z⟩ := S.look
  have HS := Lib.hid S
  clear S
  go_enter Tryz.func190, Tryz.ntmps190
  go_wp2_with fail
  refine (reset_any rb _ _ (L 0) (K 0)).mono ?_
  rintro e w1 ⟨rfl, rfl⟩
  go_wp2
  go_end0
  exact ⟨rfl, readerS_close (se := 0) ((HS.out.set rfl).set rfl)⟩
theorem reader_dev (rb tk st : Nat) (cs : List (List UInt8)) : DevS rb (fun se => readerS rb se tk st cs) := by
  rintro se h ⟨v, _, s⟩
  exact ⟨(#[.int .i64 (se : Int), v, .int .i64 (tk : Int), .int .i64 (st : Int)], 149, deckS v cs), ⟨rfl, fun se' h' s' => ⟨v, trivial, s'⟩⟩, s⟩
set_option maxHeartbeats 2000000 in
theorem rown_other (rb : Nat) (op : Int) (v : Value) (h2 : op ≠ 2) (h35 : op ≠ 35) (S : SL W F w) :
    Calls Tryz.prog 193 #[.pointer (some ⟨rb, 0, none⟩), .int .i64 op, v] w fun e w' => RetS W F [] 14 128 e w' := by
  have HS := Lib.hid S
  clear S
  go_enter Tryz.func193, Tryz.ntmps193
  go_wp2_with fail
  refine (check_any _ _).mono ?_
  rintro e w1 ⟨rfl, b1⟩
  have H1 := Lib.hid ((HS.out.allocC #[.slice none 0 0, .int .i64 0, .int .i64 0] 55).grow b1)
  obtain ⟨L1, F1, _⟩ := H1.out.look
  clear b1
  go_wp2
  exact bodyPost_ret (v := .agg #[.slice none 0 0, .int .i64 14, .int .i64 128]) (by simp [results, Tryz.results193, go_sem, L1]) rfl (RetS.of H1.out.set3.drop)
set_option maxHeartbeats 2000000 in
theorem rown_none (rb se tk st : Nat) (cs : List (List UInt8)) (v : Value) (S : SL W (readerS rb se tk st cs :: F) w) (h : tk = cs.length) :
    Calls Tryz.prog 193 #[.pointer (some ⟨rb, 0, none⟩), .int .i64 2, v] w fun e w' => RetS W (readerS rb se tk st cs :: F) [] 14 64 e w' := by
  have HS := Lib.hid S
  subst h
  obtain ⟨v1, _, S⟩ := readerS_open S
  obtain ⟨Av, cv, rfl, _, _⟩ := deck_len S.s1
  obtain ⟨L, K, z⟩ := S.look
  clear S
  go_enter Tryz.func193, Tryz.ntmps193
  go_wp2_with fail
  refine name_world (P := Code.wp _ _ _ _) ?_
  intro w0 hw0
  have S0 := SL.cast hw0 (HS.out.allocC #[.slice none 0 0, .int .i64 0, .int .i64 0] 55)
  have L0 : ∀ o, w0.cell? ⟨rb, o, none⟩ = #[Value.int .i64 (se : Int), .slice Av cs.length cv, .int .i64 (cs.length : Int), .int .i64 (st : Int)][o]? := by
    intro o; rw [hw0]; simp [World.cell?_alloc_lt, z, L]
  have H0 := Lib.hid S0
  clear hw0 S0 L K
  generalize w.heap.size = xb at *
  (refine wp_region_order (fun wx => wx = (w0).drew) [] [0, 1, 2, 3, 4, 5, 6, 7, 8, 9] [] [] [] (by kernel_rfl) (by kernel_rfl) rfl (by intro c a d v w h; cases d <;> exact h) ?_; simp only [pick, List.filterMap_cons, List.filterMap_nil, List.getElem?_cons_zero, List.getElem?_cons_succ]; refine wpPure_nil ?_; (repeat (refine wpLoads_step (fun K hK => ?_); go_simp; first | (refine hK _ ?_; clear hK K) | (refine ⟨_, fun wx hx => (by subst hx; go_simp; rfl), hK _ ?_⟩; clear hK K))); refine wpLoads_nil (wpQuiet_nil ?_); intro wq hwq; subst hwq; refine wpKeep_nil ?_)
  go_wp2_with fail
  refine (check_any _ _).mono ?_
  rintro e w1 ⟨rfl, b1⟩
  have H1 := Lib.hid (H0.out.drew.grow b1)
  obtain ⟨L1, F1, _⟩ := H1.out.look
  clear b1
  go_wp2
  exact bodyPost_ret (v := .agg #[.slice none 0 0, .int .i64 14, .int .i64 64]) (by simp [results, Tryz.results193, go_sem, L1]) rfl (RetS.of H1.out.set3.drop)
set_option maxHeartbeats 2000000 in
theorem rown_read (rb se tk st : Nat) (cs : List (List UInt8)) (v : Value) (x : List UInt8) (S : SL W (readerS rb se tk st cs :: F) w) (h : cs[tk]? = some x) (hx : x.length ≤ 100000) (hcs : cs.length ≤ 4096) :
    Calls Tryz.prog 193 #[.pointer (some ⟨rb, 0, none⟩), .int .i64 2, v] w fun e w' => RetS W (readerS rb se (tk + 1) st cs :: F) x 12 0 e w' := by
  have hlt : tk < cs.length := (List.getElem?_eq_some_iff.1 h).1
  obtain ⟨v1, _, S⟩ := readerS_open S
  obtain ⟨ps, hps, S'⟩ := deckS_open S.s1
  have hpl : ps.length = cs.length := by rw [← hps, List.length_map]
  rw [hpl] at S'
  obtain ⟨Av, cv, rfl, _, _⟩ := own_slice S'.own
  have hp : ps[tk]? = some (ps[tk]'(by omega)) := by simp [hpl, hlt]
  have hpx : (ps[tk]'(by omega)).2 = x := by
    rw [← hps, List.getElem?_map, hp] at h
    simpa using h
  obtain ⟨b7, rfl, _, c7⟩ := S'.cellAt (j := tk) (u := (ps[tk]'(by omega)).1) (by rw [List.getElem?_map, hp]; rfl)
  have hg : (ps.map Prod.fst)[tk]? = some (ps[tk]'(by omega)).1 := by rw [List.getElem?_map, hp]; rfl
  have hk : (ps.map cardS)[tk]? = some (rowS 5 1 (ps[tk]'(by omega)).1 (ps[tk]'(by omega)).2.length (Lib.byteCells (ps[tk]'(by omega)).2)) := by rw [List.getElem?_map, hp]; rfl
  rw [hpx] at hk
  have S9 := SL.take S'.s1 hk
  obtain ⟨L, K, z⟩ := S.look
  generalize (ps[tk]'(by omega)).1 = v8 at *
  obtain ⟨A8, c8, rfl, hc8, _⟩ := own_slice S9.own
  have HK := Lib.hid hk
  have HS := Lib.hid S'
  have HG := Lib.hid hg
  have HPS := Lib.hid (And.intro hps hpl)
  have hlt1 : (tk : Int) < (cs.length : Int) := by omega
  have hne : ((tk : Int) == (cs.length : Int)) = false := by rw [beq_eq_false_iff_ne]; omega
  have hx63 : x.length ≤ maxLen := by unfold maxLen; omega
  clear S S' S9 hps hpl h hp hpx hg hk c7 hc8
  go_enter Tryz.func193, Tryz.ntmps193
  go_wp2_with fail
  refine name_world (P := Code.wp _ _ _ _) ?_
  intro w0 hw0
  have S0 := SL.cast hw0 (HS.out.allocC #[.slice none 0 0, .int .i64 0, .int .i64 0] 55)
  have H0 := Lib.hid S0.s3
  clear hw0 S0 L K HS z
  generalize w.heap.size = xb at *
  obtain ⟨L0, K0, z0⟩ := H0.out.look
  (refine wp_region_order (fun wx => wx = (w0).drew) [] [0, 1, 2, 3, 4, 5, 6, 7, 8, 9] [] [] [] (by kernel_rfl) (by kernel_rfl) rfl (by intro c a d v w h; cases d <;> exact h) ?_; simp only [pick, List.filterMap_cons, List.filterMap_nil, List.getElem?_cons_zero, List.getElem?_cons_succ]; refine wpPure_nil ?_; (repeat (refine wpLoads_step (fun K hK => ?_); go_simp; first | (refine hK _ ?_; clear hK K) | (refine ⟨_, fun wx hx => (by subst hx; go_simp; rfl), hK _ ?_⟩; clear hK K))); refine wpLoads_nil (wpQuiet_nil ?_); intro wq hwq; subst hwq; refine wpKeep_nil ?_)
  go_wp2_with fail
  refine name_world (P := Code.wp _ _ _ _) ?_
  intro w1 hw1
  have e1 : Value.int .i64 ((tk : Int) + 1) = .int .i64 ((tk + 1 : Nat) : Int) := by go_num
  have S1 := SL.cast hw1 (SL.drew (H0.out.set (off := 2) (v := .int .i64 ((tk : Int) + 1)) (cs' := #[.int .i64 (se : Int), .slice (some ⟨b7, 0, none⟩) cs.length cv, .int .i64 ((tk : Int) + 1), .int .i64 (st : Int)]) rfl))
  have H1 := Lib.hid S1
  clear hw1 S1 L0 K0 H0 e1
  have hw : IntKind.i64.wrap (tk : Int) = (tk : Int) := IntWalk.i64_in _ (by omega)
  have h0t : (0 : Int) ≤ (tk : Int) := by omega
  refine wp_region_order2 (fun wx => wx = w1.drew) (SL W (cel rb #[.int .i64 (se : Int), .slice (some ⟨b7, 0, none⟩) cs.length cv, .int .i64 ((tk : Int) + 1), .int .i64 (st : Int)] 149 :: cel xb #[.slice none 0 0, .int .i64 0, .int .i64 0] 55 :: rowS 50 1 (.slice (some ⟨b7, 0, none⟩) cs.length cv) cs.length (ps.map Prod.fst) :: star (ps.map cardS) :: F)) (fun wx e => SL.cast e H1.out.drew) [0, 1, 2, 4, 5, 6] [3, 7, 8, 9, 10] [] [11, 12] [13] (by kernel_rfl) (by kernel_rfl) rfl (by intro c a d v w h; cases d <;> exact h) ?_
  simp only [pick, List.filterMap_cons, List.filterMap_nil, List.getElem?_cons_zero, List.getElem?_cons_succ]
  (repeat (refine wpPure_step (fun K hK => ?_); go_simp; refine hK _ ?_; clear hK K)); refine wpPure_nil ?_
  (repeat (refine wpLoads_step (fun K hK => ?_); go_simp; first | (refine hK _ ?_; clear hK K) | (refine ⟨_, fun wx hx => (by obtain ⟨f0, f1, f2⟩ := hx.look; have f3 := rowCell hx.s2 HG.out; go_simp; rfl), hK _ ?_⟩; clear hK K))); refine wpLoads_nil (wpQuiet_nil ?_)
  intro wq hwq
  subst hwq
  refine wpKeep_step (fun K hK => ?_)
  refine step_appS (by rfl) _ _ _ (by rfl) bElem (.slice none 0 0) 0 [] (by rfl) (H1.out.drew.nil _ _) _ A8 x.length c8 (Lib.byteCells x) (by rfl) (SL.take H1.out.drew.s3 HK.out).at_ (by rw [byteCells_len, Nat.mul_one]) (byteCells_one _) (by omega) (by omega) ?_
  intro A5 c5 w5 S5
  simp only [Nat.zero_add, List.nil_append] at S5
  simp only [Nat.zero_add]
  have H5 := Lib.hid S5
  refine hK _ _ S5.drop ?_
  clear hK K S5 H1
  (refine wpKeep_step ?_; intro K hK; go_simp)
  refine (normal_any _ _ _ _ rfl _).mono ?_
  rintro e w6 ⟨rfl, b6⟩
  have H6 := Lib.hid (H5.out.grow b6)
  refine hK _ _ H6.out.drop ?_
  clear hK K b6 H5
  refine wpKeep_nil ?_
  obtain ⟨L6, K6, z6⟩ := H6.out.s2.look
  go_wp2
  refine bodyPost_ret (v := .agg #[.slice A5 x.length c5, .int .i64 12, .int .i64 0]) (by simp [results, Tryz.results193, go_sem, L6]) rfl ⟨_, _, rfl, ?_⟩
  have e1 : Value.int .i64 ((tk : Int) + 1) = .int .i64 ((tk + 1 : Nat) : Int) := by go_num
  have H7 := H6.out
  rw [e1] at H7
  have e2 := HPS.out.1
  refine (readerS_close (deckS_eq e2 (deckS_close' HPS.out.2.symm H7.s2.set3.drop.s3.s3)).s2).s1
theorem or_join (n y : Nat) (hn : n ≤ 1099511627776) (hy : y < 256) : bits BinOp.or IntKind.i64 ((n : Int) * 256) (y : Int) = ((n * 256 + y : Nat) : Int) := by
  have h1 : (BitVec.ofInt 64 ((n : Int) * 256)).toNat = n * 256 := by rw [BitVec.toNat_ofInt]; omega
  have h2 : (BitVec.ofInt 64 (y : Int)).toNat = y := by rw [BitVec.toNat_ofInt]; omega
  show IntKind.i64.wrap (((BitVec.ofInt 64 _ ||| BitVec.ofInt 64 _).toNat : Nat) : Int) = _
  rw [BitVec.toNat_or, h1, h2, show n * 256 = 2 ^ 8 * n by omega, ← Nat.two_pow_add_eq_or_of_lt (by omega)]
  exact IntWalk.i64_in _ (by omega)
def numB (l : List UInt8) : Nat := l.foldl (fun n b => n * 256 + b.toNat) 0
theorem numB_snoc (l : List UInt8) (b : UInt8) : numB (l ++ [b]) = numB l * 256 + b.toNat := by simp [numB]
theorem foldB_lt : ∀ (l : List UInt8) (n : Nat), l.foldl (fun n b => n * 256 + b.toNat) n < (n + 1) * 256 ^ l.length
  | [], n => by simp
  | b :: l, n => by
    have hb := b.toNat_lt
    refine Nat.lt_of_lt_of_le (foldB_lt l (n * 256 + b.toNat)) ?_
    rw [List.length_cons, Nat.pow_succ, Nat.mul_comm (256 ^ l.length) 256, ← Nat.mul_assoc]
    exact Nat.mul_le_mul_right _ (by omega)
theorem numB_lt (l : List UInt8) (k : Nat) (h : l.length ≤ k) : numB l < 256 ^ k := by
  have := foldB_lt l 0
  rw [Nat.zero_add, Nat.one_mul] at this
  exact Nat.lt_of_lt_of_le this (Nat.pow_le_pow_right (by omega) h)
set_option maxHeartbeats 2000000 in
theorem rown_stack (rb se tk st st' : Nat) (xs sn : Int) (cs : List (List UInt8)) (A : Option Addr) (l : List UInt8) (c : Nat) (S : SL W (readerS rb se tk st cs :: F) w) (hr : Rd W (readerS rb se tk st cs :: F) A (Lib.byteCells l)) (hz : l.length ≤ maxLen)
    (hno : l.length ≠ 4 ∨ tk < numB l → st' = st ∧ xs = 14 ∧ sn = 128) (hyes : ¬ (l.length ≠ 4 ∨ tk < numB l) → st' = max st (numB l) ∧ xs = 12 ∧ sn = 0) :
    Calls Tryz.prog 193 #[.pointer (some ⟨rb, 0, none⟩), .int .i64 35, .slice A l.length c] w fun e w' => RetS W (readerS rb se tk st' cs :: F) [] xs sn e w' := by
  have HNO := Lib.hid hno
  have HYES := Lib.hid hyes
  clear hno hyes
  have HR := Lib.hid hr
  have HS := Lib.hid S
  unfold maxLen at hz
  obtain ⟨v1, _, S⟩ := readerS_open S
  clear hr
  have HRS := Lib.hid S
  clear S
  go_enter Tryz.func193, Tryz.ntmps193
  go_wp2_with fail
  go_loop [7, 48] (fun n i => ∃ (k : Nat) (n' : Nat), k ≤ l.length ∧ i = .int .i64 k ∧ n = .int .i64 n' ∧ n' ≤ 1099511627776 ∧ (k ≤ 4 → n' = numB (l.take k))) (fun _ i => l.length - (intOf i).toNat)
  case atStart => exact ⟨0, 0, Nat.zero_le _, rfl, rfl, by omega, fun _ => rfl⟩
  case round =>
    obtain ⟨k, n, hk, rfl, rfl, hn, hnum⟩ := hrel
    have HN := Lib.hid hnum
    clear hnum
    by_cases hlt : k < l.length
    · obtain ⟨b, off, rfl, hb, ck⟩ := (HR.out _ HS.out).cell (k := k) (u := .int .u8 (l[k].toNat : Int)) (byteCells_get l k hlt)
      have hy := l[k].toNat_lt
      have HT := Lib.hid (show k + 1 ≤ 4 → min (n * 256 + l[k].toNat) 1099511627776 = numB (l.take (k + 1)) from fun h => by
        rw [List.take_succ_eq_append_getElem hlt, numB_snoc, ← HN.out (by omega)]
        have := numB_lt (l.take k) 3 (by simp; omega)
        rw [← HN.out (by omega)] at this
        omega)
      generalize l[k].toNat = y at *
      have ho := or_join n y hn hy
      go_wp2
      go_round
      case rel => exact ⟨k + 1, min (n * 256 + y) 1099511627776, by omega, by go_num, by congr 1; omega, by omega, HT.out⟩
      case measure => simp [intOf]; omega
    · obtain rfl : k = l.length := by omega
      obtain ⟨L, K, z⟩ := HRS.out.look
      by_cases hl4 : l.length = 4
      · have hn4 : n = numB l := by rw [HN.out (by omega), List.take_of_length_le (Nat.le_refl _)]
        have HN4 := Lib.hid hn4
        clear hn4 HN
        by_cases htk : tk < n
        · have htk' : (tk : Int) < (n : Int) := by omega
          obtain ⟨rfl, rfl, rfl⟩ := HNO.out (Or.inr (by rw [← HN4.out]; exact htk))
          go_wp2_with fail
          refine (check_any _ _).mono ?_
          rintro e w1 ⟨rfl, b1⟩
          have H1 := Lib.hid ((HS.out.allocC #[.slice none 0 0, .int .i64 0, .int .i64 0] 55).grow b1)
          obtain ⟨L1, F1, _⟩ := H1.out.look
          clear b1
          go_wp2
          exact bodyPost_ret (v := .agg #[.slice none 0 0, .int .i64 14, .int .i64 128]) (by simp [results, Tryz.results193, go_sem, L1]) rfl (RetS.of H1.out.set3.drop)
        · have htk' : ¬ (tk : Int) < (n : Int) := by omega
          obtain ⟨e1, rfl, rfl⟩ := HYES.out (by rw [← HN4.out]; omega)
          rw [← HN4.out] at e1
          have HE := Lib.hid e1
          clear e1
          go_wp2_with fail
          have S0 := (HRS.out.set (off := 3) (v := .int .i64 (max (st : Int) (n : Int))) (cs' := #[.int .i64 (se : Int), v1, .int .i64 (tk : Int), .int .i64 (max (st : Int) (n : Int))]) rfl).allocC #[.slice none 0 0, .int .i64 0, .int .i64 0] 55
          simp only [World.size_setCell] at S0
          refine (normal_any _ _ _ _ rfl _).mono ?_
          rintro e w1 ⟨rfl, b1⟩
          have H1 := Lib.hid (S0.grow b1)
          obtain ⟨L1, F1, _⟩ := H1.out.look
          clear b1 S0
          go_wp2
          refine bodyPost_ret (v := .agg #[.slice none 0 0, .int .i64 12, .int .i64 0]) (by simp [results, Tryz.results193, go_sem, L1]) rfl (RetS.of ?_)
          have H2 := H1.out
          rw [show Value.int .i64 (max (st : Int) (n : Int)) = .int .i64 ((max st n : Nat) : Int) by congr 1; omega, ← HE.out] at H2
          exact readerS_close H2.set3.drop
      · have hl5 : ((l.length : Int) != 4) = true := by rw [bne_iff_ne]; omega
        obtain ⟨rfl, rfl, rfl⟩ := HNO.out (Or.inl hl4)
        go_wp2_with fail
        refine (check_any _ _).mono ?_
        rintro e w1 ⟨rfl, b1⟩
        have H1 := Lib.hid ((HS.out.allocC #[.slice none 0 0, .int .i64 0, .int .i64 0] 55).grow b1)
        obtain ⟨L1, F1, _⟩ := H1.out.look
        clear b1
        go_wp2
        exact bodyPost_ret (v := .agg #[.slice none 0 0, .int .i64 14, .int .i64 128]) (by simp [results, Tryz.results193, go_sem, L1]) rfl (RetS.of H1.out.set3.drop)
def rdOwn (tk st : Nat) (cs : List (List UInt8)) (op : Int) (l : List UInt8) : (Nat × Nat) × List UInt8 × Int × Int :=
  if op = 2 then match cs[tk]? with
    | some x => ((tk + 1, st), x, 12, 0)
    | none => ((tk, st), [], 14, 64)
  else if op = 35 then if l.length ≠ 4 ∨ tk < numB l then ((tk, st), [], 14, 128) else ((tk, max st (numB l)), [], 12, 0)
  else ((tk, st), [], 14, 128)
def RdFit (se tk st : Nat) (cs : List (List UInt8)) : Prop := se < 256 ∧ cs.length ≤ 4096 ∧ tk ≤ cs.length ∧ st ≤ tk ∧ ∀ c ∈ cs, c.length = 80
theorem rdown_any (rb se tk st : Nat) (cs : List (List UInt8)) (op : Int) (A : Option Addr) (l : List UInt8) (c : Nat) (S : SL W (readerS rb se tk st cs :: F) w) (hr : Rd W (readerS rb se tk st cs :: F) A (Lib.byteCells l)) (hz : l.length ≤ maxLen) (hf : RdFit se tk st cs) :
    Calls Tryz.prog 193 #[.pointer (some ⟨rb, 0, none⟩), .int .i64 op, .slice A l.length c] w fun e w' =>
      RetS W (readerS rb se (rdOwn tk st cs op l).1.1 (rdOwn tk st cs op l).1.2 cs :: F) (rdOwn tk st cs op l).2.1 (rdOwn tk st cs op l).2.2.1 (rdOwn tk st cs op l).2.2.2 e w' := by
  unfold rdOwn
  by_cases h2 : op = 2
  · subst h2
    rw [if_pos rfl]
    cases hx : cs[tk]? with
    | none => exact rown_none rb se tk st cs _ S (by have := List.getElem?_eq_none_iff.1 hx; have := hf.2.2.1; omega)
    | some x =>
      have hx80 := hf.2.2.2.2 x (List.mem_iff_getElem?.2 ⟨tk, hx⟩)
      exact rown_read rb se tk st cs _ x S hx (by omega) hf.2.1
  · rw [if_neg h2]
    by_cases h35 : op = 35
    · subst h35
      rw [if_pos rfl]
      by_cases h : l.length ≠ 4 ∨ tk < numB l
      · rw [if_pos h]
        exact rown_stack rb se tk st st 14 128 cs A l c S hr hz (fun _ => ⟨rfl, rfl, rfl⟩) (fun hn => absurd h hn)
      · rw [if_neg h]
        exact rown_stack rb se tk st (max st (numB l)) 12 0 cs A l c S hr hz (fun hn => absurd hn h) (fun _ => ⟨rfl, rfl, rfl⟩)
    · rw [if_neg h35]
      exact rown_other rb op _ h2 h35 S
theorem rdOwn_sn (tk st : Nat) (cs : List (List UInt8)) (op : Int) (l : List UInt8) : (rdOwn tk st cs op l).2.2.2 = 0 ∨ (rdOwn tk st cs op l).2.2.2 = 64 ∨ (rdOwn tk st cs op l).2.2.2 = 128 := by
  unfold rdOwn
  repeat' split
  all_goals simp
def rdDo (se tk st : Nat) (cs : List (List UInt8)) (op : Int) (l : List UInt8) : (Nat × Nat × Nat) × List UInt8 × Int × Int :=
  if op = 3 then ((se, tk, st), [], 12, 0) else if op = 4 then ((se, tk, st), [UInt8.ofNat se], 12, 0) else
    ((if (rdOwn tk st cs op l).2.2.2 = 0 then se else (rdOwn tk st cs op l).2.2.2.toNat, (rdOwn tk st cs op l).1), (rdOwn tk st cs op l).2)
theorem rdDo_fit {se tk st : Nat} {cs : List (List UInt8)} (h : RdFit se tk st cs) (op : Int) (l : List UInt8) : RdFit (rdDo se tk st cs op l).1.1 (rdDo se tk st cs op l).1.2.1 (rdDo se tk st cs op l).1.2.2 cs ∧ (rdDo se tk st cs op l).2.1.length ≤ 80 := by
  obtain ⟨h1, h2, h3, h4, h5⟩ := h
  unfold rdDo rdOwn
  by_cases e3 : op = 3
  · rw [if_pos e3]; exact ⟨⟨h1, h2, h3, h4, h5⟩, Nat.zero_le _⟩
  rw [if_neg e3]
  by_cases e4 : op = 4
  · rw [if_pos e4]; exact ⟨⟨h1, h2, h3, h4, h5⟩, by simp⟩
  rw [if_neg e4]
  by_cases e2 : op = 2
  · simp only [if_pos e2]
    cases hx : cs[tk]? with
    | none => exact ⟨⟨by simp, h2, h3, h4, h5⟩, Nat.zero_le _⟩
    | some x =>
      have := (List.getElem?_eq_some_iff.1 hx).1
      exact ⟨⟨h1, h2, this, Nat.le_succ_of_le h4, h5⟩, by rw [h5 x (List.mem_iff_getElem?.2 ⟨tk, hx⟩)]; simp⟩
  simp only [if_neg e2]
  by_cases e35 : op = 35
  · simp only [if_pos e35]
    by_cases h : l.length ≠ 4 ∨ tk < numB l
    · simp only [if_pos h]; exact ⟨⟨by simp, h2, h3, h4, h5⟩, Nat.zero_le _⟩
    · simp only [if_neg h]; exact ⟨⟨by simpa using h1, h2, h3, by show max st (numB l) ≤ tk; omega, h5⟩, Nat.zero_le _⟩
  simp only [if_neg e35]
  exact ⟨⟨by simp, h2, h3, h4, h5⟩, Nat.zero_le _⟩
theorem rcommand_any (rb se tk st : Nat) (cs : List (List UInt8)) (op : Int) (A : Option Addr) (l : List UInt8) (c : Nat) (S : SL W (readerS rb se tk st cs :: F) w) (hr : Rd W (readerS rb se tk st cs :: F) A (Lib.byteCells l)) (hz : l.length ≤ maxLen) (hf : RdFit se tk st cs) :
    Calls Tryz.prog 192 #[.pointer (some ⟨rb, 0, none⟩), .int .i64 op, .slice A l.length c, .func (.func 193) #[.pointer (some ⟨rb, 0, none⟩)] #[]] w fun e w' =>
      RetS W (readerS rb (rdDo se tk st cs op l).1.1 (rdDo se tk st cs op l).1.2.1 (rdDo se tk st cs op l).1.2.2 cs :: F) (rdDo se tk st cs op l).2.1 (rdDo se tk st cs op l).2.2.1 (rdDo se tk st cs op l).2.2.2 e w' := by
  unfold rdDo
  by_cases h3 : op = 3
  · subst h3
    rw [if_pos rfl]
    exact commandS_3 rb se (fun se => readerS rb se tk st cs) _ _ S
  · rw [if_neg h3]
    by_cases h4 : op = 4
    · subst h4
      rw [if_pos rfl]
      exact commandS_4 rb se (fun se => readerS rb se tk st cs) (reader_dev rb tk st cs) hf.1 _ _ S
    · rw [if_neg h4]
      exact commandS_own rb se (fun se => readerS rb se (rdOwn tk st cs op l).1.1 (rdOwn tk st cs op l).1.2 cs) (reader_dev rb _ _ _) _ op _ (rdOwn tk st cs op l).2.1 (rdOwn tk st cs op l).2.2.1 (rdOwn tk st cs op l).2.2.2 h3 h4 (rdOwn_sn tk st cs op l) (fun w => by rfl) w _ S
        (fun R w1 S1 => rdown_any rb se tk st cs op A l c S1.s1 (fun w2 S2 => hr w2 S2.s1.drop) hz hf)
set_option maxHeartbeats 2000000 in
theorem rddo_any (rb se tk st : Nat) (cs : List (List UInt8)) (op : Int) (A : Option Addr) (l : List UInt8) (c : Nat) (S : SL W (readerS rb se tk st cs :: F) w) (hr : Rd W (readerS rb se tk st cs :: F) A (Lib.byteCells l)) (hz : l.length ≤ maxLen) (hf : RdFit se tk st cs) :
    Calls Tryz.prog 189 #[.pointer (some ⟨rb, 0, none⟩), .int .i64 op, .slice A l.length c] w fun e w' =>
      RetS W (readerS rb (rdDo se tk st cs op l).1.1 (rdDo se tk st cs op l).1.2.1 (rdDo se tk st cs op l).1.2.2 cs :: F) (rdDo se tk st cs op l).2.1 (rdDo se tk st cs op l).2.2.1 (rdDo se tk st cs op l).2.2.2 e w' := by
  have HC := Lib.hid (fun (R : SA) (w1 : World) (S1 : SL W (R :: readerS rb se tk st cs :: F) w1) => rcommand_any (F := R :: F) rb se tk st cs op A l c S1.s1 (fun w2 S2 => hr w2 S2.s1.drop) hz hf)
  have HS := Lib.hid S
  generalize rdDo se tk st cs op l = r at *
  obtain ⟨⟨se1, tk1, st1⟩, rd, xs, sn⟩ := r
  dsimp only at *
  clear S hr hf
  go_enter Tryz.func189, Tryz.ntmps189
  go_wp2_with fail
  refine (HC.out _ _ (HS.out.allocC #[.slice none 0 0, .int .i64 0, .int .i64 0] 55)).mono ?_
  rintro e w1 ⟨A1, c1, rfl, S1⟩
  have H1 := Lib.hid S1.s2
  obtain ⟨L1, K1, z1⟩ := H1.out.look
  clear S1
  go_wp2
  exact bodyPost_ret (v := .agg #[.slice A1 rd.length c1, .int .i64 xs, .int .i64 sn]) (by simp [results, Tryz.results189, go_sem, L1]) rfl ⟨_, _, rfl, H1.out.set3.drop⟩
set_option maxHeartbeats 2000000 in
theorem rddo_nil (op : Int) (v : Value) (w : World) :
    Calls Tryz.prog 189 #[.pointer none, .int .i64 op, v] w fun e w' => e = .returned (.agg #[.slice none 0 0, .int .i64 14, .int .i64 64]) ∧ Below w.heap.size w w' := by
  go_enter Tryz.func189, Tryz.ntmps189
  go_wp2_with fail
  refine (check_any _ _).mono ?_
  rintro e w1 ⟨rfl, b1⟩
  obtain ⟨r1, z1, b1'⟩ := alloc_call b1
  obtain ⟨L1, F1, _⟩ := row_look r1
  clear r1 b1
  go_wp2
  exact bodyPost_ret (v := .agg #[.slice none 0 0, .int .i64 14, .int .i64 64]) (by simp [results, Tryz.results189, go_sem, L1]) rfl ⟨rfl, by (repeat' (first | (with_reducible exact Below.refl _ _) | (with_reducible assumption) | (with_reducible refine below_drewN ?_ _) | (with_reducible refine Below.drew ?_) | (with_reducible refine Below.alloc ?_ ?_ _) | (with_reducible refine Below.setCell ?_ ?_ _) | (with_reducible refine below_row ?_ ?_ _) | (with_reducible exact Nat.le_refl _) | omega | (simp only [World.size_alloc, World.size_setCell, World.size_drew, World.size_drewN]; omega) | (simp; done) | (simp; omega)))⟩
end
end Go.Proofs.YtfhpaehfihnjaaaGreat.U
