/- Sel, ReadP. -/
import Derived.Test.YtmkndbledppniaaGreatPad
import Derived.Deep.CutBlock
import Derived.Deep.CutRange
namespace Go.Proofs.YtmkndbledppniaaGreat
open Go.RowKit
section
variable {W w : World}
theorem rec_sel {L : List SA} {R : List SA} {i k n c0 : Nat} {A0 : Option Addr} {recs : List Rec} {y : Rec} (hz : L[i]? = some (recsS (.slice A0 n c0) recs)) (hy : recs[k]? = some y) (S : SL W (star L :: R) w) :
    ∃ (P : SA) (g ck cd : Nat) (Ak Ad : Option Addr), A0 = some ⟨g, 0, none⟩ ∧ SL W (P :: R) w ∧ (∀ R' w', SL W (P :: R') w' → SL W (star L :: R') w') ∧ (∀ R' w', SL W (P :: R') w' →
      w'.cell? ⟨g, k * 4, none⟩ = some (.int .i64 y.r) ∧ w'.cell? ⟨g, k * 4 + 1, none⟩ = some (.slice Ak y.key.length ck) ∧ w'.cell? ⟨g, k * 4 + 2, none⟩ = some (.slice Ad y.data.length cd) ∧ w'.cell? ⟨g, k * 4 + 3, none⟩ = some (.bool y.bad) ∧
      CardAt w' Ak y.key ck ∧ CardAt w' Ad y.data cd) := by
  have S1 := S.take hz
  have hl := (List.getElem?_eq_some_iff.1 hz).1
  obtain ⟨ps, hps, S2⟩ := recsS_open S1
  subst hps
  rw [List.getElem?_map] at hy
  obtain ⟨p, hp, rfl⟩ := Option.map_eq_some_iff.1 hy
  have hc := fun j (hj : j < 4) => recCells_get ps k j p hp hj
  have hmem : p ∈ ps := List.mem_iff_getElem?.2 ⟨k, hp⟩
  have hn : n = ps.length := by
    obtain ⟨A', c', e, _, _⟩ := recsS_len S1
    injection e with _ e _
    rw [e, List.length_map]
  subst hn
  obtain ⟨Ak, ck, Ad, cd, e1, _, _⟩ := recO_v S2.s1 p hmem
  obtain ⟨g, hA, _, _⟩ := S2.cellAt (j := k * 4 + 0) (u := .int .i64 p.2.r) (by rw [hc 0 (by omega)]; rfl)
  subst hA
  refine ⟨star [rowS 62 4 (.slice (some ⟨g, 0, none⟩) ps.length c0) ps.length (ps.flatMap recCells), star (ps.map recO), star (L.eraseIdx i)], g, ck, cd, Ak, Ad, rfl, S2.app (L := [_, _, _]), fun R' w' S' => ?_, fun R' w' S' => ?_⟩
  · have S3 := SL.put (recsS_close S'.spill) hl
    have he : L.set i (recsS (.slice (some ⟨g, 0, none⟩) ps.length c0) (ps.map Prod.snd)) = L := by
      apply List.ext_getElem?
      intro j
      rw [List.getElem?_set]
      split
      · rename_i e; subst e; first | exact hz.symm | rw [if_pos hl, hz]
      · rfl
    rw [he] at S3
    exact S3
  · have S3 := S'.spill
    obtain ⟨g0, e0, _, c0'⟩ := S3.cellAt (j := k * 4 + 0) (u := .int .i64 p.2.r) (by rw [hc 0 (by omega)]; rfl)
    obtain ⟨g1, e1', _, c1⟩ := S3.cellAt (j := k * 4 + 1) (u := p.1.1) (by rw [hc 1 (by omega)]; rfl)
    obtain ⟨g2, e2, _, c2⟩ := S3.cellAt (j := k * 4 + 2) (u := p.1.2) (by rw [hc 2 (by omega)]; rfl)
    obtain ⟨g3, e3, _, c3⟩ := S3.cellAt (j := k * 4 + 3) (u := .bool p.2.bad) (by rw [hc 3 (by omega)]; rfl)
    injection e0 with e0; injection e0 with e0; subst e0
    injection e1' with e1'; injection e1' with e1'; subst e1'
    injection e2 with e2; injection e2 with e2; subst e2
    injection e3 with e3; injection e3 with e3; subst e3
    have hv := recO_v S3.s1 p hmem
    obtain ⟨q1, q2⟩ := p
    simp only at e1
    subst e1
    obtain ⟨h1, h2⟩ := RecV.get (x := q2) hv
    exact ⟨c0', c1, c2, c3, h1, h2⟩
end
end Go.Proofs.YtmkndbledppniaaGreat
namespace Go.Proofs.YtmkndbledppniaaGreat
open Go.RowKit
/-- What the function that read is given returns for a record: slices of bytes in new memory. -/
def PartsR (w : World) (out : List UInt8) (e : Ending) (w' : World) : Prop :=
  ∃ (q : Nat) (ls : List (Value × List UInt8)), e = .returned (.slice (some ⟨q, 0, none⟩) ls.length ls.length) ∧ ls.length ≤ 3 ∧ (ls.flatMap Prod.snd) = out ∧ Below w.heap.size w w' ∧
    ∀ i v l, ls[i]? = some (v, l) → w'.cell? ⟨q, i, none⟩ = some v ∧ l.length ≤ 10000 ∧ ∃ A c, v = .slice A l.length c ∧ CardAt w' A l c
theorem flat_take {ls : List (Value × List UInt8)} {j : Nat} {v : Value} {l : List UInt8} (h : ls[j]? = some (v, l)) : (ls.take (j + 1)).flatMap Prod.snd = (ls.take j).flatMap Prod.snd ++ l := by
  rw [List.take_add_one, h]; simp
theorem fmap_len : ∀ {ls : List (Value × List UInt8)}, (∀ (i : Nat) (v : Value) (l : List UInt8), ls[i]? = some (v, l) → l.length ≤ 10000) → (ls.flatMap Prod.snd).length ≤ 10000 * ls.length
  | [], _ => by simp
  | a :: ls, h => by
    have h1 := fmap_len (ls := ls) fun i v l hi => h (i + 1) v l hi
    have h2 := h 0 a.1 a.2 rfl
    simp only [List.flatMap_cons, List.length_append, List.length_cons]; omega
end Go.Proofs.YtmkndbledppniaaGreat
