/- Struct arguments by value: fields of one cell each. -/
import Derived.Test.YtlbbmfmkhmmikaaGreatFrame
import Derived.Deep.Fields
namespace Go.Proofs.YtlbbmfmkhmmikaaGreat
open Go.ChangeShapes Go.WideShapes Go.ChangeAt Go.RowKit Go.Deep

theorem open_fields {H : Type} {enc : TypeId × Value → H} {P : Program} {w : World} {base : Nat} {spare : Nat → Bool} {held : Bool} {r : Reach} {b0 : Nat} {t : TypeId} {fs : Array Field} {v : Value} {d : DataW H} {p : List MemPlace}
    (hs : P.underlying t = some (.struct fs)) (hone : oneCellFields P fs = true) (hv : Value.okWide P w r b0 t v) (h : DataW.Trod enc P w base spare held t v d p) :
    ∃ cs : Array Value, v = .agg cs ∧ cs.size = P.cellsOf t ∧ ∀ (i : Nat) (f : Field) (u : Value), fs[i]? = some f → cs[i]? = some u → ∃ m y, DataW.trod enc P w base spare held m f.type [u] = some y := by
  obtain ⟨cs, rfl, hsz⟩ := okWide_struct hs hv
  refine ⟨cs, rfl, hsz, fun i f u hi hu => ?_⟩
  obtain ⟨fuel, hf⟩ := h
  obtain ⟨xs, n, _, _, _, hlen, hg⟩ := DataW.trod_struct hs hf
  obtain ⟨o, k⟩ := hone_of hone i f hi
  have hg' := hg i f hi
  have hil : i < fs.size := (Array.getElem?_eq_some_iff.1 hi).1
  rw [o, k, List.getElem?_eq_getElem (by omega)] at hg'
  refine ⟨n, xs[i]'(by omega), ?_⟩
  have e : (List.drop i (Value.agg cs).cells.toList).take 1 = [u] := by
    have hu' : cs.toList[i]? = some u := by simpa using hu
    obtain ⟨hl, hu2⟩ := List.getElem?_eq_some_iff.1 hu'
    show (List.drop i cs.toList).take 1 = [u]
    rw [List.drop_eq_getElem_cons hl, List.take_succ_cons, List.take_zero, hu2]
  rw [← e]
  exact hg'

theorem array_6 {α : Type} {cs : Array α} (h : cs.size = 6) : ∃ a0 a1 a2 a3 a4 a5 : α, cs = #[a0, a1, a2, a3, a4, a5] := by
  obtain ⟨l⟩ := cs
  match l, h with
  | [a0, a1, a2, a3, a4, a5], _ => exact ⟨a0, a1, a2, a3, a4, a5, rfl⟩
theorem array_2 {α : Type} {cs : Array α} (h : cs.size = 2) : ∃ a0 a1 : α, cs = #[a0, a1] := by
  obtain ⟨l⟩ := cs
  match l, h with
  | [a0, a1], _ => exact ⟨a0, a1, rfl⟩
theorem array_5 {α : Type} {cs : Array α} (h : cs.size = 5) : ∃ a0 a1 a2 a3 a4 : α, cs = #[a0, a1, a2, a3, a4] := by
  obtain ⟨l⟩ := cs
  match l, h with
  | [a0, a1, a2, a3, a4], _ => exact ⟨a0, a1, a2, a3, a4, rfl⟩

theorem array_8 {α : Type} {cs : Array α} (h : cs.size = 8) : ∃ a0 a1 a2 a3 a4 a5 a6 a7 : α, cs = #[a0, a1, a2, a3, a4, a5, a6, a7] := by
  obtain ⟨l⟩ := cs
  match l, h with
  | [a0, a1, a2, a3, a4, a5, a6, a7], _ => exact ⟨a0, a1, a2, a3, a4, a5, a6, a7, rfl⟩

theorem array_4 {α : Type} {a : Array α} (h : a.size = 4) : ∃ x0 x1 x2 x3, a = #[x0, x1, x2, x3] := by
  obtain ⟨l⟩ := a
  match l, h with
  | [x0, x1, x2, x3], _ => exact ⟨x0, x1, x2, x3, rfl⟩
end Go.Proofs.YtlbbmfmkhmmikaaGreat
