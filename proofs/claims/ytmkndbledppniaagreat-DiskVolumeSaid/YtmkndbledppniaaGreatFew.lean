/- RFits, Few, Track. -/
import Derived.Test.YtmkndbledppniaaGreatCopy
import Derived.Test.YtmkndbledppniaaGreatKitA
namespace Go.Proofs.YtmkndbledppniaaGreat
open Go.RowKit
section
variable {W w : World} {F : List SA}
theorem Fit.left {rs : List Rec} {x : Rec} (h : Fit (rs ++ [x])) : Fit rs := ⟨by have := h.1; simp at this; omega, fun y hy => h.2 y (by simp [hy])⟩
/-- A record appended whose key and data lie anywhere. -/
theorem recs_push {A A' : Option Addr} {c' : Nat} {rs : List Rec} {x : Rec} {ps : List RV} {Ak Ad : Option Addr} {ck cd : Nat} (S : SL W (rowS 62 4 (.slice A' (rs.length + 1) c') (rs.length + 1) (ps.flatMap recCells ++ [.int .i64 x.r, .slice Ak x.key.length ck, .slice Ad x.data.length cd, .bool x.bad]) :: F) w)
    (hp : ps.map Prod.snd = rs) (hv : ∀ p ∈ ps, RecV w p) (hk : CardAt w Ak x.key ck) (hd : CardAt w Ad x.data cd) : RecsAt w A' (rs ++ [x]) := by
  have h := recs_at' (ps := ps ++ [((.slice Ak x.key.length ck, .slice Ad x.data.length cd), x)]) (by rw [flat_snoc]; exact S) (fun p hp => by
    rcases List.mem_append.1 hp with h | h
    · exact hv p h
    · obtain rfl := List.mem_singleton.1 h
      exact ⟨Ak, ck, Ad, cd, rfl, hk, hd⟩)
  rw [List.map_append, hp] at h
  exact h
end
end Go.Proofs.YtmkndbledppniaaGreat
namespace Go.Proofs.YtmkndbledppniaaGreat
open Go.RowKit

def cutR (nk nd : Nat) (x : Rec) : Rec := { x with key := x.key.take nk, data := x.data.take nd }
def fewL (l : List Rec) : List Rec := (l.take 40).map (cutR 300 2100)
theorem byteCells_take (l : List UInt8) (n : Nat) : Lib.byteCells (l.take n) = (Lib.byteCells l).take n := by simp [Lib.byteCells]
theorem CardAt.take {w : World} {a : Option Addr} {l : List UInt8} {c : Nat} (h : CardAt w a l c) (n : Nat) : CardAt w a (l.take n) c := by
  refine ⟨fun hne => ?_, by have := h.2.1; rw [List.length_take]; omega, h.2.2⟩
  rw [byteCells_take] at hne ⊢
  have h0 : Lib.byteCells l ≠ [] := fun e => hne (by rw [e]; simp)
  obtain ⟨b, off, e, hb, hc⟩ := h.1 h0
  refine ⟨b, off, e, hb, fun j u hu => hc j u ?_⟩
  rw [List.getElem?_take] at hu
  split at hu
  · exact hu
  · cases hu
/-- Records that lie at an address in every world of F, their keys and data in the base world. -/
def RecsB (W : World) (F : List SA) (A : Option Addr) (rs : List Rec) : Prop := ∀ w, SL W F w → ∀ i x, rs[i]? = some x → ∃ g off Ak ck Ad cd, A = some ⟨g, off, none⟩ ∧
  w.cell? ⟨g, off + i * 4, none⟩ = some (.int .i64 x.r) ∧ w.cell? ⟨g, off + i * 4 + 1, none⟩ = some (.slice Ak x.key.length ck) ∧ w.cell? ⟨g, off + i * 4 + 2, none⟩ = some (.slice Ad x.data.length cd) ∧ w.cell? ⟨g, off + i * 4 + 3, none⟩ = some (.bool x.bad) ∧
  CardAt W Ak x.key ck ∧ CardAt W Ad x.data cd
theorem RecsB.base {W : World} {A : Option Addr} {rs : List Rec} (h : RecsAt W A rs) (F : List SA) : RecsB W F A rs := fun w S i x hx => by
  obtain ⟨g, off, Ak, ck, Ad, cd, hA, k0, k1, k2, k3, a1, a2⟩ := h i x hx
  have z := World.block_lt_of_cell? W _ k0
  exact ⟨g, off, Ak, ck, Ad, cd, hA, (S.1.cell (p := ⟨g, off + i * 4, none⟩) z).trans k0, (S.1.cell (p := ⟨g, off + i * 4 + 1, none⟩) z).trans k1, (S.1.cell (p := ⟨g, off + i * 4 + 2, none⟩) z).trans k2, (S.1.cell (p := ⟨g, off + i * 4 + 3, none⟩) z).trans k3, a1, a2⟩
section
variable {W w : World} {F : List SA}
theorem fewL_snoc {l : List Rec} {k : Nat} {x : Rec} (h : l[k]? = some x) : (l.take (k + 1)).map (cutR 300 2100) = (l.take k).map (cutR 300 2100) ++ [cutR 300 2100 x] := by
  rw [List.take_add_one, h]; simp
end
end Go.Proofs.YtmkndbledppniaaGreat
namespace Go.Proofs.YtmkndbledppniaaGreat
open Go.RowKit

def trackR (last : Int) (x : Rec) : Rec := ⟨last + 1 + x.r % 8, x.key.take 255, x.data.take 2016, x.bad⟩
def trackStep (s : List Rec × Int) (x : Rec) : List Rec × Int := if validB (s.1 ++ [trackR s.2 x]) then (s.1 ++ [trackR s.2 x], (trackR s.2 x).r) else s
def trackS (l : List Rec) : List Rec × Int := l.foldl trackStep ([], 0)
def trackL (l : List Rec) : List Rec := (trackS (l.take 40)).1
theorem trackS_snoc {l : List Rec} {k : Nat} {x : Rec} (h : l[k]? = some x) : trackS (l.take (k + 1)) = trackStep (trackS (l.take k)) x := by
  rw [List.take_add_one, h]; simp [trackS]
/-- What holds of the track along the way. -/
structure TrackOk (s : List Rec × Int) (k : Nat) : Prop where
  len : s.1.length ≤ k
  low : 0 ≤ s.2
  high : s.2 ≤ 8 * k
  valid : validB s.1 = true
  size : ∀ x ∈ s.1, x.key.length ≤ 255 ∧ x.data.length ≤ 2016
theorem trackOk_step {s : List Rec × Int} {k : Nat} (h : TrackOk s k) (x : Rec) : TrackOk (trackStep s x) (k + 1) := by
  unfold trackStep
  split
  · rename_i hv
    refine ⟨by have := h.len; simp; omega, ?_, ?_, hv, fun y hy => ?_⟩
    · have := h.low; simp only [trackR]; omega
    · have := h.high; simp only [trackR]; push_cast; omega
    · rcases List.mem_append.1 hy with h1 | h1
      · exact h.size y h1
      · obtain rfl := List.mem_singleton.1 h1
        simp only [trackR, List.length_take]
        omega
  · exact ⟨by have := h.len; omega, h.low, by have := h.high; push_cast; omega, h.valid, h.size⟩
theorem trackOk (l : List Rec) : ∀ k, k ≤ l.length → TrackOk (trackS (l.take k)) k
  | 0, _ => ⟨by simp [trackS], by simp [trackS], by simp [trackS], by rfl, by simp [trackS]⟩
  | k + 1, h => by
    rw [trackS_snoc (x := l[k]) (by simp)]
    exact trackOk_step (trackOk l k (by omega)) _
theorem numR (z last : Int) (h0 : 0 ≤ last) (h1 : last ≤ 1000) : wrap64 (last + 1 + wrap64 ((IntKind.u64.wrap z).tmod 8)) = last + 1 + z % 8 := by
  have h2 : (IntKind.u64.wrap z).tmod 8 = z % 8 := by
    have h3 : IntKind.u64.wrap z = z % 18446744073709551616 := by unfold IntKind.wrap; simp [IntKind.signed, IntKind.bits]
    rw [h3, Int.tmod_eq_emod_of_nonneg (by omega)]
    omega
  rw [h2]
  unfold wrap64
  omega
section
variable {W w : World} {F : List SA}
end
end Go.Proofs.YtmkndbledppniaaGreat
