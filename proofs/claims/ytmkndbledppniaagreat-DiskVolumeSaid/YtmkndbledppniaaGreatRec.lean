/- Rec, Cost. -/
import Derived.Test.YtmkndbledppniaaGreatKitA
namespace Go.Proofs.YtmkndbledppniaaGreat
open Go.RowKit

structure Rec where
  r : Int
  key : List UInt8
  data : List UInt8
  bad : Bool
instance : Inhabited Rec := ⟨⟨0, [], [], false⟩⟩
/-- What a record needs, by the lengths of its key and data. -/
def costN (nk nd : Nat) : Nat := 32 + nd + (if nk = 0 then 0 else 16 + nk)
def Rec.cost (x : Rec) : Nat := costN x.key.length x.data.length
def usedN (rs : List Rec) : Nat := (rs.map Rec.cost).sum
theorem usedN_nil : usedN [] = 0 := rfl
theorem usedN_app (a b : List Rec) : usedN (a ++ b) = usedN a + usedN b := by simp [usedN]
theorem usedN_take {rs : List Rec} {k : Nat} {x : Rec} (h : rs[k]? = some x) : usedN (rs.take (k + 1)) = usedN (rs.take k) + x.cost := by
  rw [List.take_add_one, h, usedN_app]; simp [usedN]
def valid1 (r : Int) (nk : Nat) : Bool := decide (1 ≤ r) && decide (r ≤ 255) && decide (nk ≤ 255)
def Rec.valid (x : Rec) : Bool := valid1 x.r x.key.length
/-- The record at i is valid and its number greater than that of the one before. -/
def okAt (rs : List Rec) (i : Nat) : Bool := match rs[i]? with
  | none => true
  | some x => x.valid && (match i with | 0 => true | j + 1 => match rs[j]? with | none => true | some y => decide (y.r < x.r))
def ordB (rs : List Rec) : Bool := (List.range rs.length).all (okAt rs)
def validB (rs : List Rec) : Bool := ordB rs && decide (usedN rs ≤ 2048)
def findN (rs : List Rec) (n : Int) : Option Nat := rs.findIdx? fun x => decide (x.r = n)

/-- A slice of bytes that can be read. -/
def CardAt (w : World) (a : Option Addr) (l : List UInt8) (c : Nat) : Prop := At w w.heap.size a (Lib.byteCells l) ∧ l.length ≤ c ∧ c ≤ maxLen
theorem CardAt.grow {w w' : World} {a : Option Addr} {l : List UInt8} {c : Nat} (h : CardAt w a l c) (hb : Below w.heap.size w w') : CardAt w' a l c := ⟨(h.1.below hb).mono hb.size, h.2⟩
/-- A list of records lies at an address. -/
def RecsAt (w : World) (A : Option Addr) (rs : List Rec) : Prop := ∀ i x, rs[i]? = some x → ∃ g off Ak ck Ad cd, A = some ⟨g, off, none⟩ ∧
  w.cell? ⟨g, off + i * 4, none⟩ = some (.int .i64 x.r) ∧ w.cell? ⟨g, off + i * 4 + 1, none⟩ = some (.slice Ak x.key.length ck) ∧ w.cell? ⟨g, off + i * 4 + 2, none⟩ = some (.slice Ad x.data.length cd) ∧ w.cell? ⟨g, off + i * 4 + 3, none⟩ = some (.bool x.bad) ∧
  CardAt w Ak x.key ck ∧ CardAt w Ad x.data cd
theorem RecsAt.grow {w w' : World} {A : Option Addr} {rs : List Rec} (h : RecsAt w A rs) (hb : Below w.heap.size w w') : RecsAt w' A rs := fun i x hx => by
  obtain ⟨g, off, Ak, ck, Ad, cd, hA, k0, k1, k2, k3, a1, a2⟩ := h i x hx
  have z := World.block_lt_of_cell? w _ k0
  exact ⟨g, off, Ak, ck, Ad, cd, hA, (hb.cell (p := ⟨g, off + i * 4, none⟩) z).trans k0, (hb.cell (p := ⟨g, off + i * 4 + 1, none⟩) z).trans k1, (hb.cell (p := ⟨g, off + i * 4 + 2, none⟩) z).trans k2, (hb.cell (p := ⟨g, off + i * 4 + 3, none⟩) z).trans k3, a1.grow hb, a2.grow hb⟩
theorem RecsAt.nil {w : World} {A : Option Addr} : RecsAt w A [] := fun i x h => by simp at h
def RecsRd (W : World) (F : List SA) (A : Option Addr) (rs : List Rec) : Prop := ∀ w, SL W F w → RecsAt w A rs
def CardRd (W : World) (F : List SA) (A : Option Addr) (l : List UInt8) (c : Nat) : Prop := ∀ w, SL W F w → CardAt w A l c
/-- Of a size that the program's slices may have. -/
def Fit (rs : List Rec) : Prop := rs.length ≤ 8192 ∧ ∀ x ∈ rs, x.key.length ≤ 140737488355328 ∧ x.data.length ≤ 140737488355328
/-- Of a size that an argument may have. -/
def FitV (rs : List Rec) : Prop := rs.length ≤ 140737488355328 ∧ ∀ x ∈ rs, x.key.length ≤ 140737488355328 ∧ x.data.length ≤ 140737488355328
theorem Fit.v {rs : List Rec} (h : Fit rs) : FitV rs := ⟨Nat.le_trans h.1 (by omega), h.2⟩
theorem cost_le {x : Rec} (h : x.key.length ≤ 140737488355328 ∧ x.data.length ≤ 140737488355328) : x.cost ≤ 281474976710704 := by unfold Rec.cost costN; split <;> omega
theorem used_le {rs : List Rec} (h : ∀ x ∈ rs, x.key.length ≤ 140737488355328 ∧ x.data.length ≤ 140737488355328) : usedN rs ≤ rs.length * 281474976710704 := by
  induction rs with
  | nil => simp [usedN]
  | cons x rs ih =>
    have h1 := cost_le (h x (by simp))
    have h2 := ih fun y hy => h y (by simp [hy])
    simp only [usedN, List.map_cons, List.sum_cons, List.length_cons] at *
    omega
theorem Fit.used {rs : List Rec} (h : Fit rs) : usedN rs ≤ 8192 * 281474976710704 := Nat.le_trans (used_le h.2) (Nat.mul_le_mul_right _ h.1)

/-- Records of the call's own: the values of key and data, and the record. -/
abbrev RV := (Value × Value) × Rec
def recCells (p : RV) : List Value := [.int .i64 p.2.r, p.1.1, p.1.2, .bool p.2.bad]
def recO (p : RV) : SA := star [rowS 5 1 p.1.1 p.2.key.length (Lib.byteCells p.2.key), rowS 5 1 p.1.2 p.2.data.length (Lib.byteCells p.2.data)]
def recsS (v : Value) (rs : List Rec) : SA := fun h => ∃ ps : List RV, ps.map Prod.snd = rs ∧ star [rowS 62 4 v ps.length (ps.flatMap recCells), star (ps.map recO)] h
theorem recCells_get : ∀ (ps : List RV) (i k : Nat) (p : RV), ps[i]? = some p → k < 4 → (ps.flatMap recCells)[i * 4 + k]? = (recCells p)[k]?
  | [], i, k, p, h, _ => by simp at h
  | q :: ps, 0, k, p, h, hk => by
    simp at h; subst h
    simp only [List.flatMap_cons, Nat.zero_mul, Nat.zero_add]
    rw [List.getElem?_append_left (by simp [recCells]; omega)]
  | q :: ps, i + 1, k, p, h, hk => by
    simp only [List.flatMap_cons]
    rw [List.getElem?_append_right (by simp [recCells]; omega), show (i + 1) * 4 + k - (recCells q).length = i * 4 + k by simp [recCells]; omega]
    exact recCells_get ps i k p (by simpa using h) hk
theorem recElem : Elem Tryz.prog 35 62 (.agg #[.int .i64 0, .slice none 0 0, .slice none 0 0, .bool false]) 4 64 := ⟨Tryz.underlying35, by kernel_rfl, rfl, by omega⟩
theorem bElem : Elem Tryz.prog 34 5 (.int .u8 0) 1 1 := ⟨Tryz.underlying34, by kernel_rfl, rfl, by omega⟩
section
variable {W w w' : World} {F : List SA}
theorem recsS_open {v : Value} {rs : List Rec} (S : SL W (recsS v rs :: F) w) : ∃ ps : List RV, ps.map Prod.snd = rs ∧ SL W (rowS 62 4 v ps.length (ps.flatMap recCells) :: star (ps.map recO) :: F) w :=
  SL.unpack (α := List RV) (φ := fun ps : List RV => ps.map Prod.snd = rs) (K := fun ps : List RV => [rowS 62 4 v ps.length (ps.flatMap recCells), star (ps.map recO)]) S (by
    rintro h ⟨ps, e, s⟩
    exact ⟨ps, e, s⟩)
theorem recsS_close {v : Value} {ps : List RV} (S : SL W (rowS 62 4 v ps.length (ps.flatMap recCells) :: star (ps.map recO) :: F) w) : SL W (recsS v (ps.map Prod.snd) :: F) w :=
  SL.pack (L := [rowS 62 4 v ps.length (ps.flatMap recCells), star (ps.map recO)]) S fun _ h => ⟨ps, rfl, h⟩
theorem recsS_close' {v : Value} {n : Nat} {rs : List Rec} {ps : List RV} (hn : ps.length = n) (hp : ps.map Prod.snd = rs) (S : SL W (rowS 62 4 v n (ps.flatMap recCells) :: star (ps.map recO) :: F) w) : SL W (recsS v rs :: F) w := by
  subst hn; subst hp
  exact recsS_close S
theorem rowS_card {A : Option Addr} {l : List UInt8} {c : Nat} (S : SL W (rowS 5 1 (.slice A l.length c) l.length (Lib.byteCells l) :: F) w) : CardAt w A l c := by
  obtain ⟨A', c', e, h1, h2⟩ := own_slice S.own
  injection e with _ _ e
  subst e
  exact ⟨S.at_, h1, h2⟩
/-- The owned list reads as its records. -/
theorem recs_at {A : Option Addr} {n c : Nat} {ps : List RV} (S : SL W (rowS 62 4 (.slice A n c) n (ps.flatMap recCells) :: star (ps.map recO) :: F) w) : RecsAt w A (ps.map Prod.snd) := fun i x hx => by
  rw [List.getElem?_map] at hx
  cases hp : ps[i]? with
  | none => rw [hp] at hx; cases hx
  | some p =>
    rw [hp] at hx; injection hx with hx; subst hx
    have ho := SL.take S.s1 (i := i) (P := recO p) (by rw [List.getElem?_map, hp]; rfl)
    have hc := fun k (hk : k < 4) => recCells_get ps i k p hp hk
    obtain ⟨g, hA, _, c0⟩ := S.cellAt (j := i * 4 + 0) (u := .int .i64 p.2.r) (by rw [hc 0 (by omega)]; rfl)
    obtain ⟨g1, hA1, _, c1⟩ := S.cellAt (j := i * 4 + 1) (u := p.1.1) (by rw [hc 1 (by omega)]; rfl)
    obtain ⟨g2, hA2, _, c2⟩ := S.cellAt (j := i * 4 + 2) (u := p.1.2) (by rw [hc 2 (by omega)]; rfl)
    obtain ⟨g3, hA3, _, c3⟩ := S.cellAt (j := i * 4 + 3) (u := .bool p.2.bad) (by rw [hc 3 (by omega)]; rfl)
    rw [hA] at hA1 hA2 hA3
    injection hA1 with hA1; injection hA1 with hA1; subst hA1
    injection hA2 with hA2; injection hA2 with hA2; subst hA2
    injection hA3 with hA3; injection hA3 with hA3; subst hA3
    have S2 := ho.spill
    simp only [List.cons_append, List.nil_append] at S2
    obtain ⟨Ak, ck, e1, _, _⟩ := own_slice S2.own
    obtain ⟨Ad, cd, e2, _, _⟩ := own_slice S2.s1.own
    have S3 := S2
    rw [e1] at S3 c1
    have S4 := S2.s1
    rw [e2] at S4 c2
    have e0 : ∀ k, (0 : Nat) + i * 4 + k = i * 4 + k := fun k => by omega
    exact ⟨g, 0, Ak, ck, Ad, cd, hA, by rw [show (0 : Nat) + i * 4 = i * 4 + 0 by omega]; exact c0, by rw [e0]; exact c1, by rw [e0]; exact c2, by rw [e0]; exact c3, rowS_card S3, rowS_card S4⟩
theorem recsS_at {A : Option Addr} {n c : Nat} {rs : List Rec} (S : SL W (recsS (.slice A n c) rs :: F) w) : RecsAt w A rs := by
  obtain ⟨ps, rfl, S1⟩ := recsS_open S
  obtain ⟨A', c', e, _, _⟩ := own_slice S1.own
  injection e with e1 e2 e3
  subst e1; subst e2; subst e3
  exact recs_at S1
/-- One record of an owned list, taken out. -/
theorem recsS_len {v : Value} {rs : List Rec} (S : SL W (recsS v rs :: F) w) : ∃ A c, v = .slice A rs.length c ∧ rs.length ≤ c ∧ c ≤ maxLen := by
  obtain ⟨ps, rfl, S1⟩ := recsS_open S
  obtain ⟨A', c', e, h1, h2⟩ := own_slice S1.own
  exact ⟨A', c', by rw [e, List.length_map], by rw [List.length_map]; exact h1, h2⟩
end
end Go.Proofs.YtmkndbledppniaaGreat
namespace Go.Proofs.YtmkndbledppniaaGreat
open Go.RowKit
section
variable {w : World}
set_option maxHeartbeats 2000000 in
theorem cost_any (r : Int) (Ak Ad : Option Addr) (nk nd ck cd : Nat) (b : Bool) (w : World) (hk : nk ≤ 281474976710656) (hd : nd ≤ 281474976710656) :
    Calls Tryz.prog 103 #[.agg #[.int .i64 r, .slice Ak nk ck, .slice Ad nd cd, .bool b]] w fun e w' => e = .returned (.int .i64 (costN nk nd : Nat)) ∧ Below w.heap.size w w' := by
  unfold costN
  go_enter Tryz.func103, Tryz.ntmps103
  by_cases h : nk = 0
  · subst h
    go_wp2
    go_ret
    exact ⟨by congr 2, by (repeat' (first | (with_reducible exact Below.refl _ _) | (with_reducible assumption) | (with_reducible refine below_drewN ?_ _) | (with_reducible refine Below.drew ?_) | (with_reducible refine Below.alloc ?_ ?_ _) | (with_reducible refine Below.setCell ?_ ?_ _) | (with_reducible refine below_row ?_ ?_ _) | (with_reducible exact Nat.le_refl _) | omega | (simp only [World.size_alloc, World.size_setCell, World.size_drew, World.size_drewN]; omega) | (simp; done) | (simp; omega)))⟩
  · rw [if_neg h]
    have h1 : ¬ ((nk : Int) = 0) := by omega
    go_wp2
    go_ret
    exact ⟨congrArg (fun z => Ending.returned (.int .i64 z)) (by push_cast; omega), by (repeat' (first | (with_reducible exact Below.refl _ _) | (with_reducible assumption) | (with_reducible refine below_drewN ?_ _) | (with_reducible refine Below.drew ?_) | (with_reducible refine Below.alloc ?_ ?_ _) | (with_reducible refine Below.setCell ?_ ?_ _) | (with_reducible refine below_row ?_ ?_ _) | (with_reducible exact Nat.le_refl _) | omega | (simp only [World.size_alloc, World.size_setCell, World.size_drew, World.size_drewN]; omega) | (simp; done) | (simp; omega)))⟩
set_option maxHeartbeats 2000000 in
theorem rcost_any (r : Int) (Ak Ad : Option Addr) (nk nd ck cd : Nat) (b : Bool) (w : World) (hk : nk ≤ 281474976710656) (hd : nd ≤ 281474976710656) :
    Calls Tryz.prog 93 #[.agg #[.int .i64 r, .slice Ak nk ck, .slice Ad nd cd, .bool b]] w fun e w' => e = .returned (.int .i64 (costN nk nd : Nat)) ∧ Below w.heap.size w w' := by
  unfold costN
  go_enter Tryz.func93, Tryz.ntmps93
  by_cases h : nk = 0
  · subst h
    go_wp2
    go_ret
    exact ⟨by congr 2, by (repeat' (first | (with_reducible exact Below.refl _ _) | (with_reducible assumption) | (with_reducible refine below_drewN ?_ _) | (with_reducible refine Below.drew ?_) | (with_reducible refine Below.alloc ?_ ?_ _) | (with_reducible refine Below.setCell ?_ ?_ _) | (with_reducible refine below_row ?_ ?_ _) | (with_reducible exact Nat.le_refl _) | omega | (simp only [World.size_alloc, World.size_setCell, World.size_drew, World.size_drewN]; omega) | (simp; done) | (simp; omega)))⟩
  · rw [if_neg h]
    have h1 : 0 < (nk : Int) := by omega
    go_wp2
    go_ret
    exact ⟨congrArg (fun z => Ending.returned (.int .i64 z)) (by push_cast; omega), by (repeat' (first | (with_reducible exact Below.refl _ _) | (with_reducible assumption) | (with_reducible refine below_drewN ?_ _) | (with_reducible refine Below.drew ?_) | (with_reducible refine Below.alloc ?_ ?_ _) | (with_reducible refine Below.setCell ?_ ?_ _) | (with_reducible refine below_row ?_ ?_ _) | (with_reducible exact Nat.le_refl _) | omega | (simp only [World.size_alloc, World.size_setCell, World.size_drew, World.size_drewN]; omega) | (simp; done) | (simp; omega)))⟩
theorem valid1_cases (r : Int) (nk : Nat) : (valid1 r nk = false ∧ r < 1) ∨ (valid1 r nk = false ∧ 1 ≤ r ∧ 255 < r) ∨ (valid1 r nk = decide ((nk : Int) ≤ 255) ∧ 1 ≤ r ∧ r ≤ 255) := by
  unfold valid1
  by_cases h1 : r < 1
  · exact .inl ⟨by simp; omega, h1⟩
  · by_cases h2 : 255 < r
    · exact .inr (.inl ⟨by simp; omega, by omega, h2⟩)
    · refine .inr (.inr ⟨?_, by omega, by omega⟩)
      rw [decide_eq_true (by omega : 1 ≤ r), decide_eq_true (by omega : r ≤ 255)]
      simp only [Bool.true_and, decide_eq_decide]
      omega
set_option maxHeartbeats 2000000 in
theorem valid1_any (r : Int) (Ak Ad : Option Addr) (nk nd ck cd : Nat) (b : Bool) (w : World) :
    Calls Tryz.prog 73 #[.agg #[.int .i64 r, .slice Ak nk ck, .slice Ad nd cd, .bool b]] w fun e w' => e = .returned (.bool (valid1 r nk)) ∧ Below w.heap.size w w' := by
  rcases valid1_cases r nk with ⟨h, h1⟩ | ⟨h, h1, h2⟩ | ⟨h, h1, h2⟩
  all_goals
    rw [h]
    clear h
    go_enter Tryz.func73, Tryz.ntmps73
    go_wp2
    go_ret
    exact ⟨rfl, by (repeat' (first | (with_reducible exact Below.refl _ _) | (with_reducible assumption) | (with_reducible refine below_drewN ?_ _) | (with_reducible refine Below.drew ?_) | (with_reducible refine Below.alloc ?_ ?_ _) | (with_reducible refine Below.setCell ?_ ?_ _) | (with_reducible refine below_row ?_ ?_ _) | (with_reducible exact Nat.le_refl _) | omega | (simp only [World.size_alloc, World.size_setCell, World.size_drew, World.size_drewN]; omega) | (simp; done) | (simp; omega)))⟩
set_option maxHeartbeats 2000000 in
theorem record_any (r : Int) (Ak Ad : Option Addr) (nk nd ck cd : Nat) (b : Bool) (w : World) :
    Calls Tryz.prog 75 #[.agg #[.int .i64 r, .slice Ak nk ck, .slice Ad nd cd, .bool b]] w fun e w' => e = .returned (.bool (valid1 r nk)) ∧ Below w.heap.size w w' := by
  rcases valid1_cases r nk with ⟨h, h1⟩ | ⟨h, h1, h2⟩ | ⟨h, h1, h2⟩
  all_goals
    rw [h]
    clear h
    go_enter Tryz.func75, Tryz.ntmps75
    go_wp2
    go_ret
    exact ⟨rfl, by (repeat' (first | (with_reducible exact Below.refl _ _) | (with_reducible assumption) | (with_reducible refine below_drewN ?_ _) | (with_reducible refine Below.drew ?_) | (with_reducible refine Below.alloc ?_ ?_ _) | (with_reducible refine Below.setCell ?_ ?_ _) | (with_reducible refine below_row ?_ ?_ _) | (with_reducible exact Nat.le_refl _) | omega | (simp only [World.size_alloc, World.size_setCell, World.size_drew, World.size_drewN]; omega) | (simp; done) | (simp; omega)))⟩
end
end Go.Proofs.YtmkndbledppniaaGreat
