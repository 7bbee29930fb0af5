/- DRec, DUsed, DValid, DFind. -/
import Derived.Test.YtfhpaehfihnjaaaGreatKitA
import Derived.Laws.EntriesVeiled
import Derived.RangeFuncNested
import Derived.RangeFuncBound
import Derived.RangeFuncCalls
import Derived.RangeFuncLeaves
import Derived.RangeFuncFrom
import Derived.Shelf.Abstract
import Derived.Shelf.RegionOpen
import Derived.OwnWalkIn
import Derived.TacticsInMore
import Derived.LoopNIn
import Derived.LoopIn
import Derived.IntWalk
import Derived.Deep.CutBlock
import Derived.Deep.CutRange
set_option maxRecDepth 100000
namespace Go.Proofs.YtfhpaehfihnjaaaGreat.D
open Go.RowKit
structure Rec where
  r : Int
  key : List UInt8
  data : List UInt8
  bad : Bool
instance : Inhabited Rec := ⟨⟨0, [], [], false⟩⟩
def costN (nk nd : Nat) : Nat := 32 + nd + (if nk = 0 then 0 else 16 + nk)
def Rec.cost (x : Rec) : Nat := costN x.key.length x.data.length
def usedN (rs : List Rec) : Nat := (rs.map Rec.cost).sum
theorem usedN_nil : usedN [] = 0 := rfl
theorem usedN_app (a b : List Rec) : usedN (a ++ b) = usedN a + usedN b := by simp [usedN]
theorem usedN_take {rs : List Rec} {k : Nat} {x : Rec} (h : rs[k]? = some x) : usedN (rs.take (k + 1)) = usedN (rs.take k) + x.cost := by
  rw [List.take_add_one, h, usedN_app]; simp [usedN]
def valid1 (r : Int) (nk : Nat) : Bool := decide (1 ≤ r) && decide (r ≤ 255) && decide (nk ≤ 255)
def Rec.valid (x : Rec) : Bool := valid1 x.r x.key.length
def okAt (rs : List Rec) (i : Nat) : Bool := match rs[i]? with
  | none => true
  | some x => x.valid && (match i with | 0 => true | j + 1 => match rs[j]? with | none => true | some y => decide (y.r < x.r))
def ordB (rs : List Rec) : Bool := (List.range rs.length).all (okAt rs)
def validB (rs : List Rec) : Bool := ordB rs && decide (usedN rs ≤ 2048)
def findN (rs : List Rec) (n : Int) : Option Nat := rs.findIdx? fun x => decide (x.r = n)
def CardAt (w : World) (a : Option Addr) (l : List UInt8) (c : Nat) : Prop := At w w.heap.size a (Lib.byteCells l) ∧ l.length ≤ c ∧ c ≤ maxLen
theorem CardAt.grow {w w' : World} {a : Option Addr} {l : List UInt8} {c : Nat} (h : CardAt w a l c) (hb : Below w.heap.size w w') : CardAt w' a l c := ⟨(h.1.below hb).mono hb.size, h.2⟩
def RecsAt (w : World) (A : Option Addr) (rs : List Rec) : Prop := ∀ i x, rs[i]? = some x → ∃ g off Ak ck Ad cd, A = some ⟨g, off, none⟩ ∧
  w.cell? ⟨g, off + i * 4, none⟩ = some (.int .i64 x.r) ∧ w.cell? ⟨g, off + i * 4 + 1, none⟩ = some (.slice Ak x.key.length ck) ∧ w.cell? ⟨g, off + i * 4 + 2, none⟩ = some (.slice Ad x.data.length cd) ∧ w.cell? ⟨g, off + i * 4 + 3, none⟩ = some (.bool x.bad) ∧
  CardAt w Ak x.key ck ∧ CardAt w Ad x.data cd
theorem RecsAt.grow {w w' : World} {A : Option Addr} {rs : List Rec} (h : RecsAt w A rs) (hb : Below w.heap.size w w') : RecsAt w' A rs := fun i x hx => by
  obtain ⟨g, off, Ak, ck, Ad, cd, hA, k0, k1, k2, k3, a1, a2⟩ := h i x hx
  have z := World.block_lt_of_cell? w _ k0
  exact ⟨g, off, Ak, ck, Ad, cd, hA, (hb.cell (p := ⟨g, off + i * 4, none⟩) z).trans k0, (hb.cell (p := ⟨g, off + i * 4 + 1, none⟩) z).trans k1, (hb.cell (p := ⟨g, off + i * 4 + 2, none⟩) z).trans k2, (hb.cell (p := ⟨g, off + i * 4 + 3, none⟩) z).trans k3, a1.grow hb, a2.grow hb⟩
theorem RecsAt.nil {w : World} {A : Option Addr} : RecsAt w A [] := fun i x h => by simp at h
def RecsRd (W : World) (F : List SA) (A : Option Addr) (rs : List Rec) : Prop := ∀ w, SL W F w → RecsAt w A rs
def CardRd (W : World) (F : List SA) (A : Option Addr) (l : List UInt8) (c : Nat) : Prop := ∀ w, SL W F w → CardAt w A l c
def Fit (rs : List Rec) : Prop := rs.length ≤ 8192 ∧ ∀ x ∈ rs, x.key.length ≤ 140737488355328 ∧ x.data.length ≤ 140737488355328
def FitV (rs : List Rec) : Prop := rs.length ≤ 140737488355328 ∧ ∀ x ∈ rs, x.key.length ≤ 140737488355328 ∧ x.data.length ≤ 140737488355328
theorem Fit.v {rs : List Rec} (h : Fit rs) : FitV rs := ⟨Nat.le_trans h.1 (by omega), h.2⟩
theorem cost_le {x : Rec} (h : x.key.length ≤ 140737488355328 ∧ x.data.length ≤ 140737488355328) : x.cost ≤ 281474976710704 := by unfold Rec.cost costN; split <;> omega
theorem used_le {rs : List Rec} (h : ∀ x ∈ rs, x.key.length ≤ 140737488355328 ∧ x.data.length ≤ 140737488355328) : usedN rs ≤ rs.length * 281474976710704 := by
  induction rs with
  | nil => simp [usedN]
  | cons x rs ih =>
    have h1 := cost_le (h x (by simp))
    have h2 := ih fun y hy => h y (by simp [hy])
    simp only [usedN, List.map_cons, List.sum_cons, List.length_cons] at *
    omega
theorem Fit.used {rs : List Rec} (h : Fit rs) : usedN rs ≤ 8192 * 281474976710704 := Nat.le_trans (used_le h.2) (Nat.mul_le_mul_right _ h.1)
abbrev RV := (Value × Value) × Rec
def recCells (p : RV) : List Value := [.int .i64 p.2.r, p.1.1, p.1.2, .bool p.2.bad]
def recO (p : RV) : SA := star [rowS 5 1 p.1.1 p.2.key.length (Lib.byteCells p.2.key), rowS 5 1 p.1.2 p.2.data.length (Lib.byteCells p.2.data)]
def recsS (v : Value) (rs : List Rec) : SA := fun h => ∃ ps : List RV, ps.map Prod.snd = rs ∧ star [rowS 188 4 v ps.length (ps.flatMap recCells), star (ps.map recO)] h
theorem recCells_get : ∀ (ps : List RV) (i k : Nat) (p : RV), ps[i]? = some p → k < 4 → (ps.flatMap recCells)[i * 4 + k]? = (recCells p)[k]?
  | [], i, k, p, h, _ => by simp at h
  | q :: ps, 0, k, p, h, hk => by
    simp at h; subst h
    simp only [List.flatMap_cons, Nat.zero_mul, Nat.zero_add]
    rw [List.getElem?_append_left (by simp [recCells]; omega)]
  | q :: ps, i + 1, k, p, h, hk => by
    simp only [List.flatMap_cons]
    rw [List.getElem?_append_right (by simp [recCells]; omega), show (i + 1) * 4 + k - (recCells q).length = i * 4 + k by simp [recCells]; omega]
    exact recCells_get ps i k p (by simpa using h) hk
theorem recElem : Elem Tryz.prog 155 188 (.agg #[.int .i64 0, .slice none 0 0, .slice none 0 0, .bool false]) 4 64 := ⟨Tryz.underlying155, by kernel_rfl, rfl, by omega⟩
theorem bElem : Elem Tryz.prog 50 5 (.int .u8 0) 1 1 := ⟨Tryz.underlying50, by kernel_rfl, rfl, by omega⟩
section
variable {W w w' : World} {F : List SA}
theorem recsS_open {v : Value} {rs : List Rec} (S : SL W (recsS v rs :: F) w) : ∃ ps : List RV, ps.map Prod.snd = rs ∧ SL W (rowS 188 4 v ps.length (ps.flatMap recCells) :: star (ps.map recO) :: F) w :=
  SL.unpack (α := List RV) (φ := fun ps : List RV => ps.map Prod.snd = rs) (K := fun ps : List RV => [rowS 188 4 v ps.length (ps.flatMap recCells), star (ps.map recO)]) S (by
    rintro h ⟨ps, e, s⟩
    exact ⟨ps, e, s⟩)
theorem recsS_close {v : Value} {ps : List RV} (S : SL W (rowS 188 4 v ps.length (ps.flatMap recCells) :: star (ps.map recO) :: F) w) : SL W (recsS v (ps.map Prod.snd) :: F) w :=
  SL.pack (L := [rowS 188 4 v ps.length (ps.flatMap recCells), star (ps.map recO)]) S fun _ h => ⟨ps, rfl, h⟩
theorem recsS_close' {v : Value} {n : Nat} {rs : List Rec} {ps : List RV} (hn : ps.length = n) (hp : ps.map Prod.snd = rs) (S : SL W (rowS 188 4 v n (ps.flatMap recCells) :: star (ps.map recO) :: F) w) : SL W (recsS v rs :: F) w := by
  subst hn; subst hp
  exact recsS_close S
theorem rowS_card {A : Option Addr} {l : List UInt8} {c : Nat} (S : SL W (rowS 5 1 (.slice A l.length c) l.length (Lib.byteCells l) :: F) w) : CardAt w A l c := by
  obtain ⟨A', c', e, h1, h2⟩ := own_slice S.own
  injection e with _ _ e
  subst e
  exact ⟨S.at_, h1, h2⟩
theorem recs_at {A : Option Addr} {n c : Nat} {ps : List RV} (S : SL W (rowS 188 4 (.slice A n c) n (ps.flatMap recCells) :: star (ps.map recO) :: F) w) : RecsAt w A (ps.map Prod.snd) := fun i x hx => by
  rw [List.getElem?_map] at hx
  cases hp : ps[i]? with
  | none => rw [hp] at hx; cases hx
  | some p =>
    rw [hp] at hx; injection hx with hx; subst hx
    have ho := SL.take S.s1 (i := i) (P := recO p) (by rw [List.getElem?_map, hp]; rfl)
    have hc := fun k (hk : k < 4) => recCells_get ps i k p hp hk
    obtain ⟨g, hA, _, c0⟩ := S.cellAt (j := i * 4 + 0) (u := .int .i64 p.2.r) (by rw [hc 0 (by omega)]; rfl)
    obtain ⟨g1, hA1, _, c1⟩ := S.cellAt (j := i * 4 + 1) (u := p.1.1) (by rw [hc 1 (by omega)]; rfl)
    obtain ⟨g2, hA2, _, c2⟩ := S.cellAt (j := i * 4 + 2) (u := p.1.2) (by rw [hc 2 (by omega)]; rfl)
    obtain ⟨g3, hA3, _, c3⟩ := S.cellAt (j := i * 4 + 3) (u := .bool p.2.bad) (by rw [hc 3 (by omega)]; rfl)
    rw [hA] at hA1 hA2 hA3
    injection hA1 with hA1; injection hA1 with hA1; subst hA1
    injection hA2 with hA2; injection hA2 with hA2; subst hA2
    injection hA3 with hA3; injection hA3 with hA3; subst hA3
    have S2 := ho.spill
    simp only [List.cons_append, List.nil_append] at S2
    obtain ⟨Ak, ck, e1, _, _⟩ := own_slice S2.own
    obtain ⟨Ad, cd, e2, _, _⟩ := own_slice S2.s1.own
    have S3 := S2
    rw [e1] at S3 c1
    have S4 := S2.s1
    rw [e2] at S4 c2
    have e0 : ∀ k, (0 : Nat) + i * 4 + k = i * 4 + k := fun k => by omega
    exact ⟨g, 0, Ak, ck, Ad, cd, hA, by rw [show (0 : Nat) + i * 4 = i * 4 + 0 by omega]; exact c0, by rw [e0]; exact c1, by rw [e0]; exact c2, by rw [e0]; exact c3, rowS_card S3, rowS_card S4⟩
theorem recsS_at {A : Option Addr} {n c : Nat} {rs : List Rec} (S : SL W (recsS (.slice A n c) rs :: F) w) : RecsAt w A rs := by
  obtain ⟨ps, rfl, S1⟩ := recsS_open S
  obtain ⟨A', c', e, _, _⟩ := own_slice S1.own
  injection e with e1 e2 e3
  subst e1; subst e2; subst e3
  exact recs_at S1
theorem recsS_len {v : Value} {rs : List Rec} (S : SL W (recsS v rs :: F) w) : ∃ A c, v = .slice A rs.length c ∧ rs.length ≤ c ∧ c ≤ maxLen := by
  obtain ⟨ps, rfl, S1⟩ := recsS_open S
  obtain ⟨A', c', e, h1, h2⟩ := own_slice S1.own
  exact ⟨A', c', by rw [e, List.length_map], by rw [List.length_map]; exact h1, h2⟩
end
end Go.Proofs.YtfhpaehfihnjaaaGreat.D
namespace Go.Proofs.YtfhpaehfihnjaaaGreat.D
open Go.RowKit
section
variable {w : World}
set_option maxHeartbeats 2000000 in
theorem cost_any (r : Int) (Ak Ad : Option Addr) (nk nd ck cd : Nat) (b : Bool) (w : World) (hk : nk ≤ 281474976710656) (hd : nd ≤ 281474976710656) :
    Calls Tryz.prog 274 #[.agg #[.int .i64 r, .slice Ak nk ck, .slice Ad nd cd, .bool b]] w fun e w' => e = .returned (.int .i64 (costN nk nd : Nat)) ∧ Below w.heap.size w w' := by
  unfold costN
  go_enter Tryz.func274, Tryz.ntmps274
  by_cases h : nk = 0
  · subst h
    go_wp2
    go_ret
    exact ⟨by congr 2, by (repeat' (first | (with_reducible exact Below.refl _ _) | (with_reducible assumption) | (with_reducible refine below_drewN ?_ _) | (with_reducible refine Below.drew ?_) | (with_reducible refine Below.alloc ?_ ?_ _) | (with_reducible refine Below.setCell ?_ ?_ _) | (with_reducible refine below_row ?_ ?_ _) | (with_reducible exact Nat.le_refl _) | omega | (simp only [World.size_alloc, World.size_setCell, World.size_drew, World.size_drewN]; omega) | (simp; done) | (simp; omega)))⟩
  · rw [if_neg h]
    have h1 : ¬ ((nk : Int) = 0) := by omega
    go_wp2
    go_ret
    exact ⟨congrArg (fun z => Ending.returned (.int .i64 z)) (by push_cast; omega), by (repeat' (first | (with_reducible exact Below.refl _ _) | (with_reducible assumption) | (with_reducible refine below_drewN ?_ _) | (with_reducible refine Below.drew ?_) | (with_reducible refine Below.alloc ?_ ?_ _) | (with_reducible refine Below.setCell ?_ ?_ _) | (with_reducible refine below_row ?_ ?_ _) | (with_reducible exact Nat.le_refl _) | omega | (simp only [World.size_alloc, World.size_setCell, World.size_drew, World.size_drewN]; omega) | (simp; done) | (simp; omega)))⟩
set_option maxHeartbeats 2000000 in
theorem rcost_any (r : Int) (Ak Ad : Option Addr) (nk nd ck cd : Nat) (b : Bool) (w : World) (hk : nk ≤ 281474976710656) (hd : nd ≤ 281474976710656) :
    Calls Tryz.prog 157 #[.agg #[.int .i64 r, .slice Ak nk ck, .slice Ad nd cd, .bool b]] w fun e w' => e = .returned (.int .i64 (costN nk nd : Nat)) ∧ Below w.heap.size w w' := by
  unfold costN
  go_enter Tryz.func157, Tryz.ntmps157
  by_cases h : nk = 0
  · subst h
    go_wp2
    go_ret
    exact ⟨by congr 2, by (repeat' (first | (with_reducible exact Below.refl _ _) | (with_reducible assumption) | (with_reducible refine below_drewN ?_ _) | (with_reducible refine Below.drew ?_) | (with_reducible refine Below.alloc ?_ ?_ _) | (with_reducible refine Below.setCell ?_ ?_ _) | (with_reducible refine below_row ?_ ?_ _) | (with_reducible exact Nat.le_refl _) | omega | (simp only [World.size_alloc, World.size_setCell, World.size_drew, World.size_drewN]; omega) | (simp; done) | (simp; omega)))⟩
  · rw [if_neg h]
    have h1 : 0 < (nk : Int) := by omega
    go_wp2
    go_ret
    exact ⟨congrArg (fun z => Ending.returned (.int .i64 z)) (by push_cast; omega), by (repeat' (first | (with_reducible exact Below.refl _ _) | (with_reducible assumption) | (with_reducible refine below_drewN ?_ _) | (with_reducible refine Below.drew ?_) | (with_reducible refine Below.alloc ?_ ?_ _) | (with_reducible refine Below.setCell ?_ ?_ _) | (with_reducible refine below_row ?_ ?_ _) | (with_reducible exact Nat.le_refl _) | omega | (simp only [World.size_alloc, World.size_setCell, World.size_drew, World.size_drewN]; omega) | (simp; done) | (simp; omega)))⟩
theorem valid1_cases (r : Int) (nk : Nat) : (valid1 r nk = false ∧ r < 1) ∨ (valid1 r nk = false ∧ 1 ≤ r ∧ 255 < r) ∨ (valid1 r nk = decide ((nk : Int) ≤ 255) ∧ 1 ≤ r ∧ r ≤ 255) := by
  unfold valid1
  by_cases h1 : r < 1
  · exact .inl ⟨by simp; omega, h1⟩
  · by_cases h2 : 255 < r
    · exact .inr (.inl ⟨by simp; omega, by omega, h2⟩)
    · refine .inr (.inr ⟨?_, by omega, by omega⟩)
      rw [decide_eq_true (by omega : 1 ≤ r), decide_eq_true (by omega : r ≤ 255)]
      simp only [Bool.true_and, decide_eq_decide]
      omega
set_option maxHeartbeats 2000000 in
theorem valid1_any (r : Int) (Ak Ad : Option Addr) (nk nd ck cd : Nat) (b : Bool) (w : World) :
    Calls Tryz.prog 259 #[.agg #[.int .i64 r, .slice Ak nk ck, .slice Ad nd cd, .bool b]] w fun e w' => e = .returned (.bool (valid1 r nk)) ∧ Below w.heap.size w w' := by
  rcases valid1_cases r nk with ⟨h, h1⟩ | ⟨h, h1, h2⟩ | ⟨h, h1, h2⟩
  all_goals
    rw [h]
    clear h
    go_enter Tryz.func259, Tryz.ntmps259
    go_wp2
    go_ret
    exact ⟨rfl, by (repeat' (first | (with_reducible exact Below.refl _ _) | (with_reducible assumption) | (with_reducible refine below_drewN ?_ _) | (with_reducible refine Below.drew ?_) | (with_reducible refine Below.alloc ?_ ?_ _) | (with_reducible refine Below.setCell ?_ ?_ _) | (with_reducible refine below_row ?_ ?_ _) | (with_reducible exact Nat.le_refl _) | omega | (simp only [World.size_alloc, World.size_setCell, World.size_drew, World.size_drewN]; omega) | (simp; done) | (simp; omega)))⟩
set_option maxHeartbeats 2000000 in
theorem record_any (r : Int) (Ak Ad : Option Addr) (nk nd ck cd : Nat) (b : Bool) (w : World) :
    Calls Tryz.prog 154 #[.agg #[.int .i64 r, .slice Ak nk ck, .slice Ad nd cd, .bool b]] w fun e w' => e = .returned (.bool (valid1 r nk)) ∧ Below w.heap.size w w' := by
  rcases valid1_cases r nk with ⟨h, h1⟩ | ⟨h, h1, h2⟩ | ⟨h, h1, h2⟩
  all_goals
    rw [h]
    clear h
    go_enter Tryz.func154, Tryz.ntmps154
    go_wp2
    go_ret
    exact ⟨rfl, by (repeat' (first | (with_reducible exact Below.refl _ _) | (with_reducible assumption) | (with_reducible refine below_drewN ?_ _) | (with_reducible refine Below.drew ?_) | (with_reducible refine Below.alloc ?_ ?_ _) | (with_reducible refine Below.setCell ?_ ?_ _) | (with_reducible refine below_row ?_ ?_ _) | (with_reducible exact Nat.le_refl _) | omega | (simp only [World.size_alloc, World.size_setCell, World.size_drew, World.size_drewN]; omega) | (simp; done) | (simp; omega)))⟩
end
end Go.Proofs.YtfhpaehfihnjaaaGreat.D
namespace Go.Proofs.YtfhpaehfihnjaaaGreat.D
open Go.RowKit Go.Shelf
attribute [local go_sem] Oper.semAt_some
abbrev CostV := { x : Nat // x ≤ 281474976710704 }
theorem Below.grownBy_none {w w' : World} (b : Below w.heap.size w w') : w.grownBy w' none := ⟨b.os, b.tape, b.output, b.size, fun k hk _ => b.block k hk⟩
theorem costs_any (A : Option Addr) (n c : Nat) (w : World) :
    Calls Tryz.prog 268 #[.slice A n c] w fun e w' => e = .returned (.func (.func 273) #[] #[.pointer (some ⟨w.heap.size, 0, none⟩)]) ∧ w.alloc (.cells #[.slice A n c] 155) = w' := by
  go_enter Tryz.func268, Tryz.ntmps268
  go_wp2
  go_ret
  exact ⟨rfl, rfl⟩
set_option maxHeartbeats 2000000 in
theorem costs1_in (l Bn : Nat) (w0 : World) (A : Option Addr) (rs : List Rec) (c : Nat) (hr : RecsAt w0 A rs) (hf : Fit rs) (J Jx : List CostV → World → Prop) (W : World) (n : Nat) (hn : 2 ≤ n)
    (hJ : AbidesFrom W.heap.size J)
    (hY : ∀ pre x W1, J pre W1 → pre.length < rs.length → YieldAt Fence.wide (n - 1) Tryz.prog l #[.int .i64 ((x : CostV).1 : Int)] W1 fun e W' =>
      (e = .returned (.bool true) ∧ J (pre ++ [x]) W' ∧ Below w0.heap.size W1 W') ∨ (e = .returned (.bool false) ∧ Jx (pre ++ [x]) W'))
    (hb : Below w0.heap.size w0 W) (hBn : W.cell? ⟨Bn, 0, none⟩ = some (.slice A rs.length c)) (h0 : J [] W) :
    CallsIn Fence.wide n Tryz.prog 273 #[.func (.yield l) #[] #[], .pointer (some ⟨Bn, 0, none⟩)] W fun e W' => (∃ v, e = .returned v) ∧
      ((∃ ys, (ys : List CostV).map Subtype.val = rs.map Rec.cost ∧ J ys W') ∨ (∃ pre, Jx pre W')) := by
  refine callsIn_of_wp Tryz.func273 rfl trivial ?_ rfl
  simp only [Tryz.ntmps273, List.size_toArray, List.length_cons, List.length_nil, Nat.reduceAdd, Nat.reduceSub, Array.replicate_succ, Array.replicate_zero, List.push_toArray, List.append_toArray, List.nil_append, List.cons_append]
  have hfl := hf.1
  gi_wp2
  gi_loopw [7] (fun p wr => ∃ (k : Nat) (pre : List CostV), k ≤ rs.length ∧ p = .int .i64 k ∧ pre.map Subtype.val = (rs.take k).map Rec.cost ∧ Below w0.heap.size w0 wr ∧ W.heap.size ≤ wr.heap.size ∧ J pre wr) (fun p _ => rs.length - (intOf p).toNat)
  case atStart => exact ⟨0, [], Nat.zero_le _, rfl, by simp, hb, Nat.le_refl _, h0⟩
  case round =>
    obtain ⟨k, pre, hk, rfl, hp, hbr, hsz, hJs⟩ := hrel
    by_cases hlt : k < rs.length
    · have hx : rs[k]? = some rs[k] := by simp [hlt]
      have hfx := hf.2 rs[k] (List.getElem_mem hlt)
      have hpl : pre.length = k := by have := congrArg List.length hp; simpa [Nat.min_eq_left hk] using this
      have hnext : rs.map Rec.cost = rs.map Rec.cost := rfl
      generalize rs[k] = x at hx hfx
      obtain ⟨g, off, Ak, ck, Ad, cd, hA, k0, k1, k2, k3, a1, a2⟩ := hr k x hx
      subst hA
      have z0 := World.block_lt_of_cell? w0 _ k0
      have d0 := (hbr.cell (p := ⟨g, off + k * 4, none⟩) z0).trans k0
      have d1 := (hbr.cell (p := ⟨g, off + k * 4 + 1, none⟩) z0).trans k1
      have d2 := (hbr.cell (p := ⟨g, off + k * 4 + 2, none⟩) z0).trans k2
      have d3 := (hbr.cell (p := ⟨g, off + k * 4 + 3, none⟩) z0).trans k3
      clear k0 k1 k2 k3 a1 a2
      have HX := Lib.hid hx
      clear hx hnext
      gi_wp2
      refine ⟨trivial, fun _ => by omega, ?_⟩
      refine (callsIn_wide.2 (cost_any x.r Ak Ad x.key.length x.data.length ck cd x.bad _ (by omega) (by omega))).mono ?_
      rintro e w2 ⟨rfl, b2⟩
      have ba := (Below.refl wr.heap.size wr).alloc (Nat.le_refl _) (.cells #[.int .i64 x.r, .slice Ak x.key.length ck, .slice Ad x.data.length cd, .bool x.bad] 188)
      have b3 := ba.trans (b2.mono (by rw [World.size_alloc]; omega))
      have hJ2 : J pre w2 := hJ pre wr w2 none hJs (Below.grownBy_none b3) (fun r e => by cases e)
      have hbw : Below w0.heap.size w0 w2 := hbr.trans (b3.mono hbr.size)
      have hs2 := b3.size
      obtain ⟨fn, tmps, assign, body, hy, hR⟩ := hY pre ⟨x.cost, cost_le hfx⟩ w2 hJ2 (by omega)
      have hy' := hy
      dsimp only [Rec.cost] at hy hR
      clear b2 ba
      gi_wp2
      refine ⟨fun _ => by omega, hR.mono ?_⟩
      rintro e W3 (⟨rfl, hJ3, hk3⟩ | ⟨rfl, hJx3⟩)
      · gi_wp2
        go_roundw
        case rel =>
          refine ⟨k + 1, pre ++ [⟨x.cost, cost_le hfx⟩], by omega, by go_num, ?_, hbw.trans hk3, ?_, hJ3⟩
          · rw [List.take_add_one, HX.out, List.map_append, List.map_append, hp]; rfl
          · have := hk3.size; omega
        case measure => simp [intOf]; omega
      · gi_wp2
        refine bodyPost_ret (results_none rfl _ _ _) rfl ?_
        exact ⟨⟨_, rfl⟩, .inr ⟨_, hJx3⟩⟩
    · obtain rfl : k = rs.length := by omega
      gi_wp2
      go_end0
      exact ⟨⟨_, rfl⟩, .inl ⟨pre, by rw [hp, List.take_of_length_le (Nat.le_refl _)], hJs⟩⟩
theorem add_any (sb : Nat) (s x : Nat) (w : World) (hs : s + x ≤ 4611686018427387904) (hc : w.cell? ⟨sb, 0, none⟩ = some (.int .i64 (s : Int))) (hf : w.frozen? ⟨sb, 0, none⟩ = false) :
    Calls Tryz.prog 267 #[.int .i64 (x : Int), .pointer (some ⟨sb, 0, none⟩)] w fun e w' => e = .returned (.tuple #[]) ∧ w.setCell ⟨sb, 0, none⟩ (.int .i64 ((s + x : Nat) : Int)) = w' := by
  go_enter Tryz.func267, Tryz.ntmps267
  go_wp2
  go_end0
  exact ⟨rfl, by push_cast; rfl⟩
theorem cost_sum {pre : List CostV} : (pre.map Subtype.val).sum ≤ pre.length * 281474976710704 := by
  induction pre with
  | nil => simp
  | cons x l ih => have := x.2; simp only [List.map_cons, List.sum_cons, List.length_cons]; omega
set_option maxHeartbeats 2000000 in
theorem used_any (A : Option Addr) (rs : List Rec) (c : Nat) (w : World) (hr : RecsAt w A rs) (hf : Fit rs) :
    Calls Tryz.prog 261 #[.slice A rs.length c] w fun e w' => e = .returned (.int .i64 (usedN rs : Nat)) ∧ Below w.heap.size w w' := by
  have hfl := hf.1
  refine (callsIn_wide (n := 8)).1 ?_
  refine callsIn_of_wp_marks Tryz.func261 rfl trivial ?_ rfl
  simp only [Tryz.ntmps261, List.size_toArray, List.length_cons, List.length_nil, Nat.reduceAdd, Nat.reduceSub, Array.replicate_succ, Array.replicate_zero, List.push_toArray, List.append_toArray, List.nil_append, List.cons_append]
  have hr1 : ((w.alloc (.cells #[.int .i64 0] 3)).alloc (.cells #[.nilFunc] 120)).heap[w.heap.size + 1]? = some (.cells #[.nilFunc] 120 (0, 0)) := by
    have h := World.alloc_heap_new (w.alloc (.cells #[.int .i64 0] 3)) (.cells #[.nilFunc] 120)
    rwa [World.size_alloc] at h
  obtain ⟨L1, F1, _⟩ := row_look hr1
  have c1 : ((w.alloc (.cells #[.int .i64 0] 3)).alloc (.cells #[.nilFunc] 120)).cell? ⟨w.heap.size + 1, 0, none⟩ = some .nilFunc := L1 0
  have c2 := F1 0
  clear L1 F1 hr1
  gi_wp2
  refine ⟨trivial, ?_⟩
  refine (callsIn_wide.2 (costs_any A rs.length c _)).mono ?_
  rintro e w1 ⟨rfl, hw1⟩
  simp only [World.size_alloc] at hw1 ⊢
  have b1 : Below w.heap.size w w1 := by rw [← hw1]; (repeat' (first | (with_reducible exact Below.refl _ _) | (with_reducible assumption) | (with_reducible refine below_drewN ?_ _) | (with_reducible refine Below.drew ?_) | (with_reducible refine Below.alloc ?_ ?_ _) | (with_reducible refine Below.setCell ?_ ?_ _) | (with_reducible refine below_row ?_ ?_ _) | (with_reducible exact Nat.le_refl _) | omega | (simp only [World.size_alloc, World.size_setCell, World.size_drew, World.size_drewN]; omega) | (simp; done) | (simp; omega)))
  have z1 : w1.heap.size = w.heap.size + 3 := by rw [← hw1]; simp only [World.size_alloc]
  have hs : w1.heap[w.heap.size]? = some (.cells #[.int .i64 0] 3 (0, 0)) := by
    rw [← hw1]
    exact (Below.heap_alloc _ _ _ (by simp only [World.size_alloc]; omega)).trans ((Below.heap_alloc _ _ _ (by simp only [World.size_alloc]; omega)).trans (World.alloc_heap_new w _))
  have ha : w1.heap[w.heap.size + 1]? = some (.cells #[.func (.func 267) #[] #[.pointer (some ⟨w.heap.size, 0, none⟩)]] 120 (0, 0)) := by
    rw [← hw1]
    refine (Below.heap_alloc _ _ _ (by simp only [World.size_alloc]; omega)).trans ?_
    have h := World.alloc_heap_new (w.alloc (.cells #[.int .i64 0] 3)) (.cells #[.func (.func 267) #[] #[.pointer (some ⟨w.heap.size, 0, none⟩)]] 120)
    rwa [World.size_alloc] at h
  have hc : w1.heap[w.heap.size + 1 + 1]? = some (.cells #[.slice A rs.length c] 155 (0, 0)) := by
    rw [← hw1]
    have h := World.alloc_heap_new ((w.alloc (.cells #[.int .i64 0] 3)).alloc (.cells #[.func (.func 267) #[] #[.pointer (some ⟨w.heap.size, 0, none⟩)]] 120)) (.cells #[.slice A rs.length c] 155)
    simpa only [World.size_alloc] using h
  clear hw1 c1 c2
  have ls := row_look hs
  have la := row_look ha
  have lc := row_look hc
  gi_wp2
  refine wpIn_rangeFunc_ownF (α := CostV) rfl (by omega) (gf := 273) (lb := #[.pointer (some ⟨w.heap.size + 1 + 1, 0, none⟩)]) rfl trivial (enters_of Tryz.func273 (by kernel_rfl) rfl)
    (encs := fun x => #[.int .i64 (x.1 : Int)]) (Kp := Below w.heap.size) (S := fun xs => xs.map Subtype.val = rs.map Rec.cost) (Sp := fun _ => True) (N := rs.length) (w0 := w1)
    (fun l J Jx W hW hJ _ hY h0 => (costs1_in l (w.heap.size + 1 + 1) w A rs c hr hf J Jx W _ (by omega) hJ hY (b1.trans (hW.mono b1.size)) ((hW.cell (p := ⟨w.heap.size + 1 + 1, 0, none⟩) (by show w.heap.size + 1 + 1 < _; omega)).trans (lc.1 0)) h0).mono (fun e W' h => ⟨h.1, h.2.imp id (fun ⟨pre, h⟩ => ⟨pre, trivial, h⟩)⟩))
    belowK_t (belowK_b (by omega)) (Below.refl _ _) (fun _ => rfl)
    (fun pre W => (W.cell? ⟨w.heap.size, 0, none⟩ = some (.int .i64 (((pre.map Subtype.val).sum : Nat) : Int)) ∧ W.frozen? ⟨w.heap.size, 0, none⟩ = false ∧ W.cell? ⟨w.heap.size + 1, 0, none⟩ = some (.func (.func 267) #[] #[.pointer (some ⟨w.heap.size, 0, none⟩)])) ∧ Below w.heap.size w W)
    (fun _ _ _ => False)
    (OwnFrom.and (Own.from (fun s A B row hs hg hr => ⟨cell_kept hs.1 hg hr, (frozen_kept hs.1 hg hr).trans hs.2.1, cell_kept hs.2.2 hg hr⟩) _) (ownFrom_below (Nat.le_refl _) (by omega)))
    (fun _ _ _ _ _ hs _ _ => hs)
    ⟨⟨ls.1 0, ls.2.1 0, la.1 0⟩, b1⟩
    (fun x => { tmps := #[.slice A rs.length c, undef, .int .i64 0, .pointer (some ⟨w.heap.size, 0, none⟩), .pointer (some ⟨w.heap.size + 1, 0, none⟩), .int .i64 (x.1 : Int), .func (.func 267) #[] #[.pointer (some ⟨w.heap.size, 0, none⟩)], .slice A rs.length c, .func (.func 273) #[] #[.pointer (some ⟨w.heap.size + 1 + 1, 0, none⟩)], .int .i64 (x.1 : Int), undef, undef, undef, undef], defers := [] }) ?assign ?body ?done ?stop
  case assign =>
    intro l x W K hK
    gi_wp2
    exact hK
  case body =>
    rintro l pre x W ⟨⟨hc, hf, hg⟩, hB⟩ hl
    have hsum := cost_sum (pre := pre)
    have hx := x.2
    gi_wp2
    refine ⟨trivial, ?_⟩
    refine (CallsIn.inRound l (callsIn_wide.2 (add_any w.heap.size (pre.map Subtype.val).sum x.1 W (by omega) hc hf))).mono ?_
    rintro e w' ⟨rfl, rfl⟩
    gi_wp2
    refine ⟨KeepsOthers.setCell _ _ _, (Below.refl w.heap.size W).setCell (p := ⟨w.heap.size, 0, none⟩) (Nat.le_refl _) _, ⟨?_, ?_, ?_⟩, hB.setCell (p := ⟨w.heap.size, 0, none⟩) (Nat.le_refl _) _⟩
    · rw [World.cell?_setCell_same' _ _ _ (by rw [hc]; rfl)]; simp
    · rw [World.frozen?_setCell]; exact hf
    · exact (World.cell?_setCell_far W ⟨w.heap.size, 0, none⟩ ⟨w.heap.size + 1, 0, none⟩ _ (by show w.heap.size ≠ w.heap.size + 1; omega)).trans hg
  case done =>
    rintro D ys W hD hys ⟨⟨hc, _⟩, hB⟩ hK
    gi_wp2
    refine ⟨by simp, .inl ⟨_, _, rfl, run_takeDeferred hK, ?_⟩⟩
    exact ⟨_, results_tmp rfl _ _ _, rfl, hB.trans (belowK_b (w := w) (Nat.le_refl _) W D _ _ (by omega) hK rfl rfl)⟩
  case stop =>
    rintro D c pre W _ _ h _
    exact h.elim
end Go.Proofs.YtfhpaehfihnjaaaGreat.D
namespace Go.Proofs.YtfhpaehfihnjaaaGreat.D
open Go.RowKit
theorem okAt_zero {rs : List Rec} {x : Rec} (h : rs[0]? = some x) : okAt rs 0 = x.valid := by simp [okAt, h]
theorem okAt_succ {rs : List Rec} {j : Nat} {x y : Rec} (h : rs[j + 1]? = some x) (hy : rs[j]? = some y) : okAt rs (j + 1) = (x.valid && decide (y.r < x.r)) := by simp only [okAt, h, hy]
theorem ok_num {rs : List Rec} (h : ∀ j, j < rs.length → okAt rs j = true) : ∀ (j : Nat) (x : Rec), rs[j]? = some x → (j : Int) + 1 ≤ x.r ∧ x.r ≤ 255
  | 0, x, hx => by
    have h1 := h 0 (List.getElem?_eq_some_iff.1 hx).1
    rw [okAt_zero hx] at h1
    simp only [Rec.valid, valid1, Bool.and_eq_true, decide_eq_true_eq] at h1
    omega
  | j + 1, x, hx => by
    have hl := (List.getElem?_eq_some_iff.1 hx).1
    have hy : rs[j]? = some (rs[j]'(by omega)) := List.getElem?_eq_getElem (by omega)
    have h1 := h (j + 1) hl
    have h2 := ok_num h j _ hy
    rw [okAt_succ hx hy] at h1
    simp only [Rec.valid, valid1, Bool.and_eq_true, decide_eq_true_eq] at h1
    push_cast
    omega
theorem ok_fit {rs : List Rec} (h : ∀ j, j < rs.length → okAt rs j = true) (hf : FitV rs) : Fit rs := ⟨by
  by_cases h0 : rs.length = 0
  · omega
  · have h1 := ok_num h (rs.length - 1) _ (List.getElem?_eq_getElem (by omega))
    omega, hf.2⟩
theorem validB_false {rs : List Rec} {k : Nat} (hk : k < rs.length) (h : okAt rs k = false) : validB rs = false := by
  have : ordB rs = false := by
    unfold ordB
    rw [List.all_eq_false]
    exact ⟨k, List.mem_range.2 hk, by rw [h]; decide⟩
  unfold validB; rw [this]; rfl
theorem validB_true {rs : List Rec} (h : ∀ j, j < rs.length → okAt rs j = true) : validB rs = decide (usedN rs ≤ 2048) := by
  have : ordB rs = true := by
    unfold ordB
    rw [List.all_eq_true]
    exact fun j hj => h j (List.mem_range.1 hj)
  unfold validB; rw [this]; rfl
section
set_option maxHeartbeats 4000000 in
theorem rused_any (A : Option Addr) (rs : List Rec) (c : Nat) (w : World) (hr : RecsAt w A rs) (hf : Fit rs) :
    Calls Tryz.prog 155 #[.slice A rs.length c] w fun e w' => e = .returned (.int .i64 (usedN rs : Nat)) ∧ Below w.heap.size w w' := by
  have HF := Lib.hid hf
  have hfl := hf.1
  have HR := Lib.hid hr
  have hfu : ∀ k, usedN (rs.take k) ≤ 8192 * 281474976710704 := fun k => by
    refine Nat.le_trans (used_le fun x hx => HF.out.2 x (List.mem_of_mem_take hx)) (Nat.mul_le_mul_right _ ?_)
    rw [List.length_take]; omega
  have HFU := Lib.hid hfu
  clear hf hr hfu
  go_enter Tryz.func155, Tryz.ntmps155
  go_wp2
  go_loopw [3, 4] (fun n i wr => ∃ k : Nat, k ≤ rs.length ∧ n = .int .i64 (usedN (rs.take k) : Nat) ∧ i = .int .i64 k ∧ Below w.heap.size w wr) (fun _ i _ => rs.length - (intOf i).toNat)
  case atStart => exact ⟨0, Nat.zero_le _, rfl, rfl, Below.refl _ _⟩
  case round =>
    obtain ⟨k, hk, rfl, rfl, b1⟩ := hrel
    have B1 := Lib.hid b1
    clear b1
    by_cases hlt : k < rs.length
    · have hx : rs[k]? = some rs[k] := by simp [hlt]
      have hfx := HF.out.2 rs[k] (List.getElem_mem hlt)
      generalize rs[k] = x at hx hfx
      obtain ⟨g, off, Ak, ck, Ad, cd, hA, k0, k1, k2, k3, a1, a2⟩ := HR.out.grow B1.out k x hx
      subst hA
      have hu := HFU.out k
      have hc := cost_le hfx
      have HX := Lib.hid (usedN_take hx)
      clear hx a1 a2
      unfold Rec.cost at hc HX
      generalize usedN (rs.take k) = u at *
      go_wp2_with fail
      refine (rcost_any x.r Ak Ad x.key.length x.data.length ck cd x.bad _ (by omega) (by omega)).mono ?_
      rintro e w2 ⟨rfl, b2⟩
      have B2 := Lib.hid (B1.out.trans (b2.mono B1.out.size))
      clear b2 k0 k1 k2 k3
      generalize costN x.key.length x.data.length = q at *
      go_wp2
      go_roundw
      case rel => exact ⟨k + 1, by omega, by rw [HX.out]; push_cast; rfl, by go_num, B2.out⟩
      case measure => simp [intOf]; omega
    · obtain rfl : k = rs.length := by omega
      go_wp2
      go_ret
      exact ⟨by rw [List.take_of_length_le (Nat.le_refl _)]; rfl, B1.out⟩
set_option maxHeartbeats 8000000 in
theorem valid_wide (A : Option Addr) (rs : List Rec) (c : Nat) (w : World) (hr : RecsAt w A rs) (hf : FitV rs) :
    Calls Tryz.prog 253 #[.slice A rs.length c] w fun e w' => e = .returned (.bool (validB rs)) ∧ Below w.heap.size w w' := by
  have HF := Lib.hid hf
  have hfl := hf.1
  have HR := Lib.hid hr
  clear hf hr
  go_enter Tryz.func253, Tryz.ntmps253
  go_wp2
  go_loopw [7] (fun i wr => ∃ k : Nat, k ≤ rs.length ∧ i = .int .i64 k ∧ (∀ j, j < k → okAt rs j = true) ∧ Below w.heap.size w wr) (fun i _ => rs.length - (intOf i).toNat)
  case atStart => exact ⟨0, Nat.zero_le _, rfl, fun j h => absurd h (by omega), Below.refl _ _⟩
  case round =>
    obtain ⟨k, hk, rfl, hok, b1⟩ := hrel
    have B1 := Lib.hid b1
    have HOK := Lib.hid hok
    clear b1 hok
    by_cases hlt : k < rs.length
    · have hx : rs[k]? = some rs[k] := by simp [hlt]
      generalize rs[k] = x at hx
      obtain ⟨g, off, Ak, ck, Ad, cd, hA, k0, k1, k2, k3, _⟩ := HR.out.grow B1.out k x hx
      subst hA
      have HX := Lib.hid hx
      have HV := Lib.hid (fun wx => valid1_any x.r Ak Ad x.key.length x.data.length ck cd x.bad wx)
      clear hx
      go_upto_region 4 with fail
      refine name_world (P := Code.wp _ _ _ _) ?_
      intro wd hwd
      have bd : Below wr.heap.size wr wd := by rw [hwd]; (repeat' (first | (with_reducible exact Below.refl _ _) | (with_reducible assumption) | (with_reducible refine below_drewN ?_ _) | (with_reducible refine Below.drew ?_) | (with_reducible refine Below.alloc ?_ ?_ _) | (with_reducible refine Below.setCell ?_ ?_ _) | (with_reducible refine below_row ?_ ?_ _) | (with_reducible exact Nat.le_refl _) | omega | (simp only [World.size_alloc, World.size_setCell, World.size_drew, World.size_drewN]; omega) | (simp; done) | (simp; omega)))
      have HB := Lib.hid (show wd.heap[wr.heap.size]? = some (.cells #[.int .i64 x.r, .slice Ak x.key.length ck, .slice Ad x.data.length cd, .bool x.bad] 188 (0, 0)) by rw [hwd]; exact hl_new rfl)
      have BD := Lib.hid bd
      have B2 := Lib.hid (B1.out.trans (bd.mono B1.out.size))
      clear hwd bd k0 k1 k2 k3
      generalize wr.heap.size = xb at *
      have HL := Lib.hid (fun (wx : World) (hx : Below wd.heap.size wd wx) => row_look (hl_grow hx HB.out))
      cases hv : valid1 x.r x.key.length
      · have hno := validB_false hlt (by
          rcases Nat.eq_zero_or_pos k with rfl | hp
          · rw [okAt_zero HX.out]; exact hv
          · obtain ⟨j, rfl⟩ : ∃ j, k = j + 1 := ⟨k - 1, by omega⟩
            rw [okAt_succ HX.out (y := rs[j]) (by simp)]
            unfold Rec.valid; rw [hv]; rfl)
        have HNO := Lib.hid hno
        rw [hv] at HV
        clear hv hno
        refine wp_region_quiet (C := Below wd.heap.size wd) (by kernel_rfl) (by kernel_rfl) (Below.refl _ _).drew ?_
        (repeat (with_reducible refine wpQuiet_step ?_; intro K hK; go_simp; first | (with_reducible refine hK _ ?_; clear hK K) | (rw [if_neg (by decide)]; with_reducible refine hK _ ?_; clear hK K) | (refine ⟨_, fun wx hx => (by obtain ⟨f0, f1, f2⟩ := HL.out wx hx; go_simp; with_reducible rfl), hK _ ?_⟩; clear hK K) | (refine ⟨_, fun wx hx => (by with_reducible refine (HV.out wx).mono ?_; rintro e w' ⟨rfl, h2⟩; exact ⟨rfl, hx.trans (h2.mono hx.size)⟩), hK _ ?_⟩; clear hK K) | (refine ⟨_, fun _ _ => rfl, hK _ ?_⟩; clear hK K)))
        with_reducible refine wpQuiet_nil ?_
        intro w3 hw3
        have B3 := Lib.hid (B2.out.trans (Below.mono hw3 B2.out.size))
        clear hw3
        go_wp2
        go_ret
        exact ⟨by rw [HNO.out]; rfl, B3.out⟩
      · rw [hv] at HV
        have HVX := Lib.hid hv
        clear hv
        rcases Nat.eq_zero_or_pos k with hk0 | hk0
        · subst hk0
          have HT := Lib.hid (show okAt rs 0 = true from by
            rw [okAt_zero HX.out]; exact HVX.out)
          rw [show ((0 : Nat) : Int) = 0 from rfl]
          refine wp_region_quiet (C := Below wd.heap.size wd) (by kernel_rfl) (by kernel_rfl) (Below.refl _ _).drew ?_
          (repeat (with_reducible refine wpQuiet_step ?_; intro K hK; go_simp; first | (with_reducible refine hK _ ?_; clear hK K) | (rw [if_neg (by decide)]; with_reducible refine hK _ ?_; clear hK K) | (refine ⟨_, fun wx hx => (by obtain ⟨f0, f1, f2⟩ := HL.out wx hx; go_simp; with_reducible rfl), hK _ ?_⟩; clear hK K) | (refine ⟨_, fun wx hx => (by with_reducible refine (HV.out wx).mono ?_; rintro e w' ⟨rfl, h2⟩; exact ⟨rfl, hx.trans (h2.mono hx.size)⟩), hK _ ?_⟩; clear hK K) | (refine ⟨_, fun _ _ => rfl, hK _ ?_⟩; clear hK K)))
          with_reducible refine wpQuiet_nil ?_
          intro w3 hw3
          have B3 := Lib.hid (B2.out.trans (Below.mono hw3 B2.out.size))
          clear hw3
          go_wp2
          go_roundw
          case rel => exact ⟨1, by omega, by go_num, fun j hj => (by
            obtain rfl : j = 0 := by omega
            exact HT.out), B3.out⟩
          case measure => simp [intOf]; omega
        · obtain ⟨j, hj⟩ : ∃ j, j = k - 1 := ⟨_, rfl⟩
          have hjk : k = j + 1 := by omega
          have hjl : j < rs.length := by omega
          have hy : rs[j]? = some rs[j] := by simp [hjl]
          generalize rs[j] = y at hy
          obtain ⟨g2, off2, Ak2, ck2, Ad2, cd2, hA, m0, _, _, _, _⟩ := HR.out.grow B2.out j y hy
          injection hA with hA; injection hA with h1 h2
          subst h1; subst h2
          have HM := Lib.hid (fun (wx : World) (hx : Below wd.heap.size wd wx) => (hx.cell (p := ⟨g, off + j * 4, none⟩) (World.block_lt_of_cell? wd _ m0)).trans m0)
          have HT := Lib.hid (show okAt rs k = decide (y.r < x.r) from by
            have hx := HX.out
            rw [hjk] at hx ⊢
            rw [okAt_succ hx hy]
            unfold Rec.valid
            rw [HVX.out, Bool.true_and])
          have t4 : decide ((0 : Int) < (k : Int)) = true := by simp; omega
          have t4' : decide (0 < k) = true := by simp; omega
          have t5 : ((k : Int) - 1) = (j : Int) := by omega
          have hw5 : IntKind.i64.wrap (j : Int) = (j : Int) := IntWalk.i64_in _ (by omega)
          have hw6 : (0 : Int) ≤ (j : Int) := by omega
          have t6 : (j : Int) < (rs.length : Int) := by omega
          clear hy m0 hj hjk hk0
          cases ht : decide (y.r < x.r)
          · have t7 : decide (x.r ≤ y.r) = true := by simp at ht ⊢; omega
            rw [ht] at HT
            have HNO := Lib.hid (validB_false hlt HT.out)
            clear ht
            refine wp_region_quiet (C := Below wd.heap.size wd) (by kernel_rfl) (by kernel_rfl) (Below.refl _ _).drew ?_
            (repeat (with_reducible refine wpQuiet_step ?_; intro K hK; go_simp; first | (with_reducible refine hK _ ?_; clear hK K) | (rw [if_neg (by decide)]; with_reducible refine hK _ ?_; clear hK K) | (refine ⟨_, fun wx hx => (by obtain ⟨f0, f1, f2⟩ := HL.out wx hx; have m0 := HM.out wx hx; go_simp; with_reducible rfl), hK _ ?_⟩; clear hK K) | (refine ⟨_, fun wx hx => (by with_reducible refine (HV.out wx).mono ?_; rintro e w' ⟨rfl, h2⟩; exact ⟨rfl, hx.trans (h2.mono hx.size)⟩), hK _ ?_⟩; clear hK K) | (refine ⟨_, fun _ _ => rfl, hK _ ?_⟩; clear hK K))); with_reducible refine wpQuiet_nil ?_
            intro w3 hw3
            have B3 := Lib.hid (B2.out.trans (Below.mono hw3 B2.out.size))
            clear hw3
            go_wp2
            go_ret
            exact ⟨by rw [HNO.out]; rfl, B3.out⟩
          · have t7 : decide (x.r ≤ y.r) = false := by simp at ht ⊢; omega
            rw [ht] at HT
            clear ht
            refine wp_region_quiet (C := Below wd.heap.size wd) (by kernel_rfl) (by kernel_rfl) (Below.refl _ _).drew ?_
            (repeat (with_reducible refine wpQuiet_step ?_; intro K hK; go_simp; first | (with_reducible refine hK _ ?_; clear hK K) | (rw [if_neg (by decide)]; with_reducible refine hK _ ?_; clear hK K) | (refine ⟨_, fun wx hx => (by obtain ⟨f0, f1, f2⟩ := HL.out wx hx; have m0 := HM.out wx hx; go_simp; with_reducible rfl), hK _ ?_⟩; clear hK K) | (refine ⟨_, fun wx hx => (by with_reducible refine (HV.out wx).mono ?_; rintro e w' ⟨rfl, h2⟩; exact ⟨rfl, hx.trans (h2.mono hx.size)⟩), hK _ ?_⟩; clear hK K) | (refine ⟨_, fun _ _ => rfl, hK _ ?_⟩; clear hK K))); with_reducible refine wpQuiet_nil ?_
            intro w3 hw3
            have B3 := Lib.hid (B2.out.trans (Below.mono hw3 B2.out.size))
            clear hw3
            go_wp2
            go_roundw
            case rel => exact ⟨k + 1, by omega, by go_num, fun j hj => (by
              rcases Nat.lt_succ_iff_lt_or_eq.1 hj with h | rfl
              · exact HOK.out j h
              · exact HT.out), B3.out⟩
            case measure => simp [intOf]; omega
    · obtain rfl : k = rs.length := by omega
      have HNO := Lib.hid (validB_true HOK.out)
      go_wp2_with fail
      refine (used_any A rs c wr (HR.out.grow B1.out) (ok_fit HOK.out HF.out)).mono ?_
      rintro e w2 ⟨rfl, b2⟩
      have B2 := Lib.hid (B1.out.trans (b2.mono B1.out.size))
      clear b2
      go_wp2
      go_ret
      exact ⟨by rw [HNO.out]; exact congrArg (fun b => Ending.returned (.bool b)) (decide_eq_decide.2 (by omega)), B2.out⟩
set_option maxHeartbeats 8000000 in
theorem rvalid_wide (A : Option Addr) (rs : List Rec) (c : Nat) (w : World) (hr : RecsAt w A rs) (hf : FitV rs) :
    Calls Tryz.prog 153 #[.slice A rs.length c] w fun e w' => e = .returned (.bool (validB rs)) ∧ Below w.heap.size w w' := by
  have HF := Lib.hid hf
  have hfl := hf.1
  have HR := Lib.hid hr
  clear hf hr
  go_enter Tryz.func153, Tryz.ntmps153
  go_wp2
  go_loopw [3] (fun i wr => ∃ k : Nat, k ≤ rs.length ∧ i = .int .i64 k ∧ (∀ j, j < k → okAt rs j = true) ∧ Below w.heap.size w wr) (fun i _ => rs.length - (intOf i).toNat)
  case atStart => exact ⟨0, Nat.zero_le _, rfl, fun j h => absurd h (by omega), Below.refl _ _⟩
  case round =>
    obtain ⟨k, hk, rfl, hok, b1⟩ := hrel
    have B1 := Lib.hid b1
    have HOK := Lib.hid hok
    clear b1 hok
    by_cases hlt : k < rs.length
    · have hx : rs[k]? = some rs[k] := by simp [hlt]
      generalize rs[k] = x at hx
      obtain ⟨g, off, Ak, ck, Ad, cd, hA, k0, k1, k2, k3, _⟩ := HR.out.grow B1.out k x hx
      subst hA
      have z0 := World.block_lt_of_cell? wr _ k0
      have HX := Lib.hid hx
      have HV := Lib.hid (fun wx => record_any x.r Ak Ad x.key.length x.data.length ck cd x.bad wx)
      have HL := Lib.hid (fun (wx : World) (hx : Below wr.heap.size wr wx) => (⟨(hx.cell (p := ⟨g, off + k * 4, none⟩) z0).trans k0, (hx.cell (p := ⟨g, off + k * 4 + 1, none⟩) z0).trans k1, (hx.cell (p := ⟨g, off + k * 4 + 2, none⟩) z0).trans k2, (hx.cell (p := ⟨g, off + k * 4 + 3, none⟩) z0).trans k3⟩ :
        wx.cell? ⟨g, off + k * 4, none⟩ = some (.int .i64 x.r) ∧ wx.cell? ⟨g, off + k * 4 + 1, none⟩ = some (.slice Ak x.key.length ck) ∧ wx.cell? ⟨g, off + k * 4 + 2, none⟩ = some (.slice Ad x.data.length cd) ∧ wx.cell? ⟨g, off + k * 4 + 3, none⟩ = some (.bool x.bad)))
      clear hx k0 k1 k2 k3 z0
      go_upto_region 4 with fail
      cases hv : valid1 x.r x.key.length
      · have hno := validB_false hlt (by
          rcases Nat.eq_zero_or_pos k with rfl | hp
          · rw [okAt_zero HX.out]; exact hv
          · obtain ⟨j, rfl⟩ : ∃ j, k = j + 1 := ⟨k - 1, by omega⟩
            rw [okAt_succ HX.out (y := rs[j]) (by simp)]
            unfold Rec.valid; rw [hv]; rfl)
        have HNO := Lib.hid hno
        rw [hv] at HV
        clear hv hno
        refine wp_region_quiet (C := Below wr.heap.size wr) (by kernel_rfl) (by kernel_rfl) (Below.refl _ _).drew ?_
        (repeat (with_reducible refine wpQuiet_step ?_; intro K hK; go_simp; first | (with_reducible refine hK _ ?_; clear hK K) | (rw [if_neg (by decide)]; with_reducible refine hK _ ?_; clear hK K) | (refine ⟨_, fun wx hx => (by obtain ⟨f0, f1, f2, f3⟩ := HL.out wx hx; go_simp; with_reducible rfl), hK _ ?_⟩; clear hK K) | (refine ⟨_, fun wx hx => (by with_reducible refine (HV.out wx).mono ?_; rintro e w' ⟨rfl, h2⟩; exact ⟨rfl, hx.trans (h2.mono hx.size)⟩), hK _ ?_⟩; clear hK K) | (refine ⟨_, fun _ _ => rfl, hK _ ?_⟩; clear hK K))); with_reducible refine wpQuiet_nil ?_
        intro w3 hw3
        have B3 := Lib.hid (B1.out.trans (Below.mono hw3 B1.out.size))
        clear hw3
        go_wp2
        go_ret
        exact ⟨by rw [HNO.out]; rfl, B3.out⟩
      · rw [hv] at HV
        have HVX := Lib.hid hv
        clear hv
        rcases Nat.eq_zero_or_pos k with hk0 | hk0
        · subst hk0
          have HT := Lib.hid (show okAt rs 0 = true from by
            rw [okAt_zero HX.out]; exact HVX.out)
          rw [show ((0 : Nat) : Int) = 0 from rfl]
          refine wp_region_quiet (C := Below wr.heap.size wr) (by kernel_rfl) (by kernel_rfl) (Below.refl _ _).drew ?_
          (repeat (with_reducible refine wpQuiet_step ?_; intro K hK; go_simp; first | (with_reducible refine hK _ ?_; clear hK K) | (rw [if_neg (by decide)]; with_reducible refine hK _ ?_; clear hK K) | (refine ⟨_, fun wx hx => (by obtain ⟨f0, f1, f2, f3⟩ := HL.out wx hx; simp only [Nat.zero_mul, Nat.add_zero] at f0 f1 f2 f3; go_simp; with_reducible rfl), hK _ ?_⟩; clear hK K) | (refine ⟨_, fun wx hx => (by with_reducible refine (HV.out wx).mono ?_; rintro e w' ⟨rfl, h2⟩; exact ⟨rfl, hx.trans (h2.mono hx.size)⟩), hK _ ?_⟩; clear hK K) | (refine ⟨_, fun _ _ => rfl, hK _ ?_⟩; clear hK K))); with_reducible refine wpQuiet_nil ?_
          intro w3 hw3
          have B3 := Lib.hid (B1.out.trans (Below.mono hw3 B1.out.size))
          clear hw3
          go_wp2
          go_roundw
          case rel => exact ⟨1, by omega, by go_num, fun j hj => (by
            obtain rfl : j = 0 := by omega
            exact HT.out), B3.out⟩
          case measure => simp [intOf]; omega
        · obtain ⟨j, hj⟩ : ∃ j, j = k - 1 := ⟨_, rfl⟩
          have hjk : k = j + 1 := by omega
          have hjl : j < rs.length := by omega
          have hy : rs[j]? = some rs[j] := by simp [hjl]
          generalize rs[j] = y at hy
          obtain ⟨g2, off2, Ak2, ck2, Ad2, cd2, hA, m0, _, _, _, _⟩ := HR.out.grow B1.out j y hy
          injection hA with hA; injection hA with h1 h2
          subst h1; subst h2
          have HM := Lib.hid (fun (wx : World) (hx : Below wr.heap.size wr wx) => (hx.cell (p := ⟨g, off + j * 4, none⟩) (World.block_lt_of_cell? wr _ m0)).trans m0)
          have HT := Lib.hid (show okAt rs k = decide (y.r < x.r) from by
            have hx := HX.out
            rw [hjk] at hx ⊢
            rw [okAt_succ hx hy]
            unfold Rec.valid
            rw [HVX.out, Bool.true_and])
          have t4 : decide ((0 : Int) < (k : Int)) = true := by simp; omega
          have t4' : decide (0 < k) = true := by simp; omega
          have t5 : ((k : Int) - 1) = (j : Int) := by omega
          have hw5 : IntKind.i64.wrap (j : Int) = (j : Int) := IntWalk.i64_in _ (by omega)
          have hw6 : (0 : Int) ≤ (j : Int) := by omega
          have t6 : (j : Int) < (rs.length : Int) := by omega
          clear hy m0 hj hjk hk0
          cases ht : decide (y.r < x.r)
          · have t7 : decide (x.r ≤ y.r) = true := by simp at ht ⊢; omega
            rw [ht] at HT
            have HNO := Lib.hid (validB_false hlt HT.out)
            clear ht
            refine wp_region_quiet (C := Below wr.heap.size wr) (by kernel_rfl) (by kernel_rfl) (Below.refl _ _).drew ?_
            (repeat (with_reducible refine wpQuiet_step ?_; intro K hK; go_simp; first | (with_reducible refine hK _ ?_; clear hK K) | (rw [if_neg (by decide)]; with_reducible refine hK _ ?_; clear hK K) | (refine ⟨_, fun wx hx => (by obtain ⟨f0, f1, f2, f3⟩ := HL.out wx hx; have m0 := HM.out wx hx; go_simp; with_reducible rfl), hK _ ?_⟩; clear hK K) | (refine ⟨_, fun wx hx => (by with_reducible refine (HV.out wx).mono ?_; rintro e w' ⟨rfl, h2⟩; exact ⟨rfl, hx.trans (h2.mono hx.size)⟩), hK _ ?_⟩; clear hK K) | (refine ⟨_, fun _ _ => rfl, hK _ ?_⟩; clear hK K))); with_reducible refine wpQuiet_nil ?_
            intro w3 hw3
            have B3 := Lib.hid (B1.out.trans (Below.mono hw3 B1.out.size))
            clear hw3
            go_wp2
            go_ret
            exact ⟨by rw [HNO.out]; rfl, B3.out⟩
          · have t7 : decide (x.r ≤ y.r) = false := by simp at ht ⊢; omega
            rw [ht] at HT
            clear ht
            refine wp_region_quiet (C := Below wr.heap.size wr) (by kernel_rfl) (by kernel_rfl) (Below.refl _ _).drew ?_
            (repeat (with_reducible refine wpQuiet_step ?_; intro K hK; go_simp; first | (with_reducible refine hK _ ?_; clear hK K) | (rw [if_neg (by decide)]; with_reducible refine hK _ ?_; clear hK K) | (refine ⟨_, fun wx hx => (by obtain ⟨f0, f1, f2, f3⟩ := HL.out wx hx; have m0 := HM.out wx hx; go_simp; with_reducible rfl), hK _ ?_⟩; clear hK K) | (refine ⟨_, fun wx hx => (by with_reducible refine (HV.out wx).mono ?_; rintro e w' ⟨rfl, h2⟩; exact ⟨rfl, hx.trans (h2.mono hx.size)⟩), hK _ ?_⟩; clear hK K) | (refine ⟨_, fun _ _ => rfl, hK _ ?_⟩; clear hK K))); with_reducible refine wpQuiet_nil ?_
            intro w3 hw3
            have B3 := Lib.hid (B1.out.trans (Below.mono hw3 B1.out.size))
            clear hw3
            go_wp2
            go_roundw
            case rel => exact ⟨k + 1, by omega, by go_num, fun j hj => (by
              rcases Nat.lt_succ_iff_lt_or_eq.1 hj with h | rfl
              · exact HOK.out j h
              · exact HT.out), B3.out⟩
            case measure => simp [intOf]; omega
    · obtain rfl : k = rs.length := by omega
      have HNO := Lib.hid (validB_true HOK.out)
      go_wp2_with fail
      refine (rused_any A rs c wr (HR.out.grow B1.out) (ok_fit HOK.out HF.out)).mono ?_
      rintro e w2 ⟨rfl, b2⟩
      have B2 := Lib.hid (B1.out.trans (b2.mono B1.out.size))
      clear b2
      go_wp2
      go_ret
      exact ⟨by rw [HNO.out]; exact congrArg (fun b => Ending.returned (.bool b)) (decide_eq_decide.2 (by omega)), B2.out⟩
theorem valid_any (A : Option Addr) (rs : List Rec) (c : Nat) (w : World) (hr : RecsAt w A rs) (hf : Fit rs) :
    Calls Tryz.prog 253 #[.slice A rs.length c] w fun e w' => e = .returned (.bool (validB rs)) ∧ Below w.heap.size w w' := valid_wide A rs c w hr hf.v
theorem rvalid_any (A : Option Addr) (rs : List Rec) (c : Nat) (w : World) (hr : RecsAt w A rs) (hf : Fit rs) :
    Calls Tryz.prog 153 #[.slice A rs.length c] w fun e w' => e = .returned (.bool (validB rs)) ∧ Below w.heap.size w w' := rvalid_wide A rs c w hr hf.v
end
end Go.Proofs.YtfhpaehfihnjaaaGreat.D
namespace Go.Proofs.YtfhpaehfihnjaaaGreat.D
open Go.RowKit
def idxV : Option Nat → Int
  | some i => (i : Int)
  | none => -1
theorem findIdx_some {α : Type} {p : α → Bool} {l : List α} {k : Nat} {x : α} (hx : l[k]? = some x) (hp : p x = true) (h : ∀ j y, j < k → l[j]? = some y → p y = false) : l.findIdx? p = some k := by
  rw [List.findIdx?_eq_some_iff_getElem]
  obtain ⟨hk, e⟩ := List.getElem?_eq_some_iff.1 hx
  refine ⟨hk, by rw [e]; exact hp, fun j hj => ?_⟩
  have := h j l[j] hj (by simp)
  simpa using this
theorem findIdx_none {α : Type} {p : α → Bool} {l : List α} (h : ∀ j y, j < l.length → l[j]? = some y → p y = false) : l.findIdx? p = none := by
  rw [List.findIdx?_eq_none_iff]
  intro x hx
  obtain ⟨j, hj⟩ := List.mem_iff_getElem?.1 hx
  exact h j x (List.getElem?_eq_some_iff.1 hj).1 hj
section
set_option maxHeartbeats 1000000 in
theorem find1_any (x : Rec) (Ak Ad : Option Addr) (ck cd nb : Nat) (n : Int) (w : World) (hn : w.cell? ⟨nb, 0, none⟩ = some (.int .i64 n)) :
    Calls Tryz.prog 236 #[.agg #[.int .i64 x.r, .slice Ak x.key.length ck, .slice Ad x.data.length cd, .bool x.bad], .pointer (some ⟨nb, 0, none⟩)] w fun e w' => e = .returned (.bool (decide (x.r = n))) ∧ Below w.heap.size w w' := by
  go_enter Tryz.func236, Tryz.ntmps236
  have hz := World.block_lt_of_cell? w _ hn
  have hn' : (w.alloc (.cells #[.int .i64 x.r, .slice Ak x.key.length ck, .slice Ad x.data.length cd, .bool x.bad] 188)).cell? ⟨nb, 0, none⟩ = some (.int .i64 n) :=
    (((Below.refl w.heap.size w).alloc (Nat.le_refl _) _).cell (p := ⟨nb, 0, none⟩) hz).trans hn
  go_wp2
  go_ret
  exact ⟨rfl, by (repeat' (first | (with_reducible exact Below.refl _ _) | (with_reducible assumption) | (with_reducible refine below_drewN ?_ _) | (with_reducible refine Below.drew ?_) | (with_reducible refine Below.alloc ?_ ?_ _) | (with_reducible refine Below.setCell ?_ ?_ _) | (with_reducible refine below_row ?_ ?_ _) | (with_reducible exact Nat.le_refl _) | omega | (simp only [World.size_alloc, World.size_setCell, World.size_drew, World.size_drewN]; omega) | (simp; done) | (simp; omega)))⟩
set_option maxHeartbeats 4000000 in
theorem indexFind_any (A : Option Addr) (rs : List Rec) (c nb : Nat) (n : Int) (w : World) (hr : RecsAt w A rs) (hl : rs.length ≤ maxLen) (hn : w.cell? ⟨nb, 0, none⟩ = some (.int .i64 n)) :
    Calls Tryz.prog 235 #[.slice A rs.length c, .func (.func 236) #[] #[.pointer (some ⟨nb, 0, none⟩)]] w fun e w' => e = .returned (.int .i64 (idxV (findN rs n))) ∧ Below w.heap.size w w' := by
  have HR := Lib.hid hr
  have hz := World.block_lt_of_cell? w _ hn
  have HN := Lib.hid (fun (wx : World) (hx : Below w.heap.size w wx) => (hx.cell (p := ⟨nb, 0, none⟩) hz).trans hn)
  have hfl : rs.length ≤ 9223372036854775807 := by unfold maxLen at hl; omega
  clear hr hn hl hz
  go_enter Tryz.func235, Tryz.ntmps235
  go_wp2
  go_loopw [8] (fun i wr => ∃ k : Nat, k ≤ rs.length ∧ i = .int .i64 k ∧ (∀ j y, j < k → rs[j]? = some y → decide (y.r = n) = false) ∧ Below w.heap.size w wr) (fun i _ => rs.length - (intOf i).toNat)
  case atStart => exact ⟨0, Nat.zero_le _, rfl, fun j y h => absurd h (by omega), Below.refl _ _⟩
  case round =>
    obtain ⟨k, hk, rfl, hok, b1⟩ := hrel
    have B1 := Lib.hid b1
    have HOK := Lib.hid hok
    clear b1 hok
    by_cases hlt : k < rs.length
    · have hx : rs[k]? = some rs[k] := by simp [hlt]
      generalize rs[k] = x at hx
      obtain ⟨g, off, Ak, ck, Ad, cd, hA, k0, k1, k2, k3, _⟩ := HR.out.grow B1.out k x hx
      subst hA
      have HX := Lib.hid hx
      clear hx
      go_wp2_with fail
      refine (find1_any x Ak Ad ck cd nb n _ (HN.out _ B1.out)).mono ?_
      rintro e w2 ⟨rfl, b2⟩
      have B2 := Lib.hid (B1.out.trans (b2.mono B1.out.size))
      clear b2 k0 k1 k2 k3
      cases hp : decide (x.r = n)
      · have HP := Lib.hid hp
        clear hp
        go_wp2
        go_roundw
        case rel => exact ⟨k + 1, by omega, by go_num, fun j y hj hy => (by
          rcases Nat.lt_succ_iff_lt_or_eq.1 hj with h | rfl
          · exact HOK.out j y h hy
          · have hx := HX.out
            rw [hy] at hx; injection hx with hx; subst hx; exact HP.out), B2.out⟩
        case measure => simp [intOf]; omega
      · have HF := Lib.hid (show findN rs n = some k from findIdx_some HX.out hp HOK.out)
        clear hp
        go_wp2
        go_ret
        exact ⟨by rw [HF.out]; rfl, B2.out⟩
    · obtain rfl : k = rs.length := by omega
      have HF := Lib.hid (show findN rs n = none from findIdx_none HOK.out)
      go_wp2
      go_ret
      exact ⟨by rw [HF.out]; rfl, B1.out⟩
theorem findN_lt {rs : List Rec} {n : Int} {i : Nat} (h : findN rs n = some i) : i < rs.length := by
  unfold findN at h
  rw [List.findIdx?_eq_some_iff_getElem] at h
  exact h.1
set_option maxHeartbeats 2000000 in
theorem find_any (A : Option Addr) (rs : List Rec) (c : Nat) (n : Int) (w : World) (hr : RecsAt w A rs) (hl : rs.length ≤ maxLen) :
    Calls Tryz.prog 219 #[.slice A rs.length c, .int .i64 n] w fun e w' => e = .returned (.tuple #[.int .i64 (((findN rs n).getD 0 : Nat) : Int), .bool (findN rs n).isSome]) ∧ Below w.heap.size w w' := by
  have ba : Below w.heap.size w (w.alloc (.cells #[.int .i64 n] 3)) := (Below.refl _ w).alloc (Nat.le_refl _) _
  have hn : (w.alloc (.cells #[.int .i64 n] 3)).cell? ⟨w.heap.size, 0, none⟩ = some (.int .i64 n) := (row_look (hl_new rfl)).1 0
  have HI := Lib.hid (indexFind_any A rs c w.heap.size n _ (hr.grow ba) hl hn)
  have BA := Lib.hid ba
  have hlt : ∀ i, findN rs n = some i → i < rs.length := fun i => findN_lt
  have hfl : rs.length ≤ 9223372036854775807 := by unfold maxLen at hl; omega
  clear hr ba hn
  generalize findN rs n = f at *
  go_enter Tryz.func219, Tryz.ntmps219
  go_wp2_with fail
  refine HI.out.mono ?_
  rintro e w2 ⟨rfl, b2⟩
  have B2 := Lib.hid (BA.out.trans (b2.mono BA.out.size))
  clear b2 HI BA
  cases f with
  | none =>
    simp only [idxV]
    go_wp2
    go_ret2
    exact ⟨rfl, B2.out⟩
  | some i =>
    have := hlt i rfl
    clear hlt
    simp only [idxV]
    have hm : max (i : Int) 0 = (i : Int) := by omega
    have h0 : (0 : Int) ≤ (i : Int) := by omega
    go_wp2
    go_ret2
    exact ⟨rfl, B2.out⟩
end
end Go.Proofs.YtfhpaehfihnjaaaGreat.D
