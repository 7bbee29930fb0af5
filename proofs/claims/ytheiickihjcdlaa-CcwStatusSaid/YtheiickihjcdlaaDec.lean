import Derived.Test.YtheiickihjcdlaaWord
import Derived.Test.YtheiickihjcdlaaFlags
namespace Go.Proofs.Ytheiickihjcdlaa
open Go.RowKit

theorem low24 (n : Nat) (hn : n < 4294967296) : bits .and .u32 (n : Int) 16777215 = ((n % 16777216 : Nat) : Int) := by
  rw [show (16777215 : Int) = ((16777215 : Nat) : Int) from rfl, u32_and_nat n 16777215 hn (by omega)]
  congr 1
  exact Nat.and_two_pow_sub_one_eq_mod n 24

theorem low24s (a b c d : Nat) (ha : a < 256) (hb : b < 256) (hc : c < 256) (hd : d < 256) :
    wrap64 (bits .and .u32 ((a : Int) * 16777216 + (b : Int) * 65536 + (c : Int) * 256 + (d : Int)) 16777215) = ((b * 65536 + c * 256 + d : Nat) : Int) := by
  have e : (a : Int) * 16777216 + (b : Int) * 65536 + (c : Int) * 256 + (d : Int) = ((a * 16777216 + b * 65536 + c * 256 + d : Nat) : Int) := by omega
  rw [e, low24 _ (by omega)]
  unfold wrap64
  omega

set_option maxHeartbeats 1000000 in
/-- ccw.addrOf -/
theorem addrOf_any (A : Option Addr) (l : List UInt8) (c : Nat) (w : World) (ha : At w w.heap.size A (Lib.byteCells l)) (hl : l.length ≤ 1000000000) (hk : 3 < l.length) :
    Calls Try.prog 31 #[.slice A l.length c] w fun e w' => e = .returned (.int .i64 ((l[1].toNat * 65536 + l[2].toNat * 256 + l[3].toNat : Nat) : Int)) ∧ Still w w' := by
  have HA := Lib.hid ha
  clear ha
  go_enter Try.func31, Try.ntmps31
  go_wp2_with fail
  refine (full_yes A l c 0 w HA.out hl hk).mono ?_
  rintro e w1 ⟨rfl, st⟩
  have h0 := l[0].toNat_lt
  have h1 := l[1].toNat_lt
  have h2 := l[2].toNat_lt
  have h3 := l[3].toNat_lt
  go_wp2
  go_ret
  refine ⟨ret_int ?_, st⟩
  exact low24s _ _ _ _ (by omega) (by omega) (by omega) (by omega)

set_option maxHeartbeats 1000000 in
/-- ccw.countOf -/
theorem countOf_any (A : Option Addr) (l : List UInt8) (c : Nat) (w : World) (ha : At w w.heap.size A (Lib.byteCells l)) (hl : l.length ≤ 1000000000) (hk : 7 < l.length) :
    Calls Try.prog 33 #[.slice A l.length c] w fun e w' => e = .returned (.int .i64 ((l[6].toNat * 256 + l[7].toNat : Nat) : Int)) ∧ Still w w' := by
  have HA := Lib.hid ha
  clear ha
  go_enter Try.func33, Try.ntmps33
  go_wp2_with fail
  refine (half_yes A l c 6 w HA.out hl hk).mono ?_
  rintro e w1 ⟨rfl, st⟩
  have h6 := l[6].toNat_lt
  have h7 := l[7].toNat_lt
  obtain ⟨e1, e2, e3⟩ := half_low l[6] l[7]
  go_wp2
  go_ret
  refine ⟨ret_int ?_, st⟩
  omega

theorem row_set {w : World} {b : Nat} {cs : Array Value} (h : ∀ j, w.cell? ⟨b, j, none⟩ = cs[j]?) (k : Nat) (v : Value) (hk : k < cs.size) :
    ∀ j, (w.setCell ⟨b, k, none⟩ v).cell? ⟨b, j, none⟩ = (cs.setIfInBounds k v)[j]? := fun j => by
  by_cases hj : k = j
  · subst hj
    rw [World.cell?_setCell_same (u := cs[k]) (h := show w.cell? ⟨b, k, none⟩ = some cs[k] by rw [h]; simp [hk])]
    simp [hk]
  · rw [World.cell?_setCell_other (h := show (⟨b, k, none⟩ : Addr) ≠ ⟨b, j, none⟩ by simp [*]), h]
    simp [hj]
theorem row_far {w : World} {b : Nat} {cs : Array Value} (h : ∀ j, w.cell? ⟨b, j, none⟩ = cs[j]?) {g : Nat} (k : Nat) (v : Value) (hg : g ≠ b) :
    ∀ j, (w.setCell ⟨g, k, none⟩ v).cell? ⟨b, j, none⟩ = cs[j]? := fun j => by
  rw [World.cell?_setCell_other (h := show (⟨g, k, none⟩ : Addr) ≠ ⟨b, j, none⟩ by simp [*]), h]
theorem name_world {P : World → Prop} {W : World} (h : ∀ wa, wa = W → P wa) : P W := h W rfl

/-- The cells of the empty word. -/
def ccwZero : Array Value := ccwCells 0 0 0 false false false false false
theorem rowc_set {w : World} {g : Nat} {cs : Array Value} {t : TypeId} {fr : Nat × Nat} (h : w.heap[g]? = some (.cells cs t fr)) (k : Nat) (v : Value) :
    (w.setCell ⟨g, k, none⟩ v).heap[g]? = some (.cells (cs.setIfInBounds k v) t fr) := by
  simp [World.setCell, Array.getElem?_modify, h]
theorem rowc_far {w : World} {b g : Nat} {o : Obj} (h : w.heap[b]? = some o) (k : Nat) (v : Value) (hg : g ≠ b) : (w.setCell ⟨g, k, none⟩ v).heap[b]? = some o := by
  rw [Below.heap_setCell _ _ _ _ (by exact Ne.symm hg)]
  exact h
theorem rowc_row {w : World} {g : Nat} {cs : Array Value} {t : TypeId} {fr : Nat × Nat} (h : w.heap[g]? = some (.cells cs t fr)) (cs' : Array Value) :
    (w.setRow g cs').heap[g]? = some (.cells cs' t fr) := by
  simp [World.setRow, Array.getElem?_modify, h]
theorem below_row {B : Nat} {a w : World} (h : Below B a w) {g : Nat} (hg : B ≤ g) (cs : Array Value) : Below B a (w.setRow g cs) :=
  h.trans ⟨rfl, rfl, rfl, by simp [World.setRow], fun k hk => by
    simp only [World.setRow, Array.getElem?_modify]
    rw [if_neg (by omega)]⟩
theorem heap_alloc_keep {w : World} {b : Nat} {o : Obj} (h : w.heap[b]? = some o) (o' : Obj) : (w.alloc o').heap[b]? = some o := by
  have hb : b < w.heap.size := by
    rcases Nat.lt_or_ge b w.heap.size with h1 | h1
    · exact h1
    · rw [Array.getElem?_eq_none h1] at h; cases h
  rw [Below.heap_alloc _ _ _ hb]
  exact h
/-- What stands behind the making of c in Decode. -/
structure DFacts (w wa : World) (cs : Array Value) (t u : TypeId) : Prop where
  hb : Below w.heap.size w wa
  r : wa.heap[w.heap.size + 1]? = some (.cells cs u (0, 0))
  z : wa.heap[w.heap.size]? = some (.cells ccwZero t (0, 0))
theorem dfacts1l (w : World) (m : Nat) (cs : Array Value) (t u : TypeId) : DFacts w (((w.alloc (.cells #[Value.int .i64 0, .int .i64 0, .bool false, .bool false, .bool false, .bool false, .bool false, .int .i64 0] t)).drewN m).alloc (.cells cs u)) cs t u where
  hb := (below_drewN ((Below.refl _ _).alloc (Nat.le_refl _) _) _).alloc (by simp) _
  r := by
    have := heap_alloc_new ((w.alloc (.cells #[Value.int .i64 0, .int .i64 0, .bool false, .bool false, .bool false, .bool false, .bool false, .int .i64 0] t)).drewN m) (.cells cs u (0, 0))
    simpa using this
  z := heap_alloc_keep (heap_alloc_new w _) _
theorem dfacts2l (w : World) (m : Nat) (v0 v1 v2 v3 v4 v5 v6 v7 : Value) (t u : TypeId) :
    DFacts w (((((((((((w.alloc (.cells #[Value.int .i64 0, .int .i64 0, .bool false, .bool false, .bool false, .bool false, .bool false, .int .i64 0] t)).alloc (.cells #[Value.int .i64 0, .int .i64 0, .bool false, .bool false, .bool false, .bool false, .bool false, .int .i64 0] u)).drewN m).setCell ⟨w.heap.size + 1, 0, none⟩ v0).setCell ⟨w.heap.size + 1, 1, none⟩ v1).setCell ⟨w.heap.size + 1, 2, none⟩ v2).setCell ⟨w.heap.size + 1, 3, none⟩ v3).setCell ⟨w.heap.size + 1, 4, none⟩ v4).setCell ⟨w.heap.size + 1, 5, none⟩ v5).setCell ⟨w.heap.size + 1, 6, none⟩ v6).setCell ⟨w.heap.size + 1, 7, none⟩ v7) #[v0, v1, v2, v3, v4, v5, v6, v7] t u := by
  have h0 : (((w.alloc (.cells #[Value.int .i64 0, .int .i64 0, .bool false, .bool false, .bool false, .bool false, .bool false, .int .i64 0] t)).alloc (.cells #[Value.int .i64 0, .int .i64 0, .bool false, .bool false, .bool false, .bool false, .bool false, .int .i64 0] u)).drewN m).heap[w.heap.size + 1]? = some (.cells ccwZero u (0, 0)) := by
    have := heap_alloc_new (w.alloc (.cells #[Value.int .i64 0, .int .i64 0, .bool false, .bool false, .bool false, .bool false, .bool false, .int .i64 0] t)) (.cells ccwZero u (0, 0))
    rw [World.size_alloc] at this
    exact this
  have h1 : (((w.alloc (.cells #[Value.int .i64 0, .int .i64 0, .bool false, .bool false, .bool false, .bool false, .bool false, .int .i64 0] t)).alloc (.cells #[Value.int .i64 0, .int .i64 0, .bool false, .bool false, .bool false, .bool false, .bool false, .int .i64 0] u)).drewN m).heap[w.heap.size]? = some (.cells ccwZero t (0, 0)) := heap_alloc_keep (heap_alloc_new w _) _
  have h2 : Below w.heap.size w (((w.alloc (.cells #[Value.int .i64 0, .int .i64 0, .bool false, .bool false, .bool false, .bool false, .bool false, .int .i64 0] t)).alloc (.cells #[Value.int .i64 0, .int .i64 0, .bool false, .bool false, .bool false, .bool false, .bool false, .int .i64 0] u)).drewN m) := below_drewN (((Below.refl _ _).alloc (Nat.le_refl _) _).alloc (by simp) _) _
  generalize (((w.alloc (.cells #[Value.int .i64 0, .int .i64 0, .bool false, .bool false, .bool false, .bool false, .bool false, .int .i64 0] t)).alloc (.cells #[Value.int .i64 0, .int .i64 0, .bool false, .bool false, .bool false, .bool false, .bool false, .int .i64 0] u)).drewN m) = wb at *
  have hp : ∀ k, w.heap.size ≤ (⟨w.heap.size + 1, k, none⟩ : Addr).block := fun k => Nat.le_succ _
  have hf : w.heap.size + 1 ≠ w.heap.size := by omega
  refine ⟨((((((((h2.setCell (hp 0) v0).setCell (hp 1) v1).setCell (hp 2) v2).setCell (hp 3) v3).setCell (hp 4) v4).setCell (hp 5) v5).setCell (hp 6) v6).setCell (hp 7) v7), ?_, ?_⟩
  · have q := rowc_set (rowc_set (rowc_set (rowc_set (rowc_set (rowc_set (rowc_set (rowc_set h0 0 v0) 1 v1) 2 v2) 3 v3) 4 v4) 5 v5) 6 v6) 7 v7
    rw [q]
    simp [ccwZero, ccwCells]
  · exact rowc_far (rowc_far (rowc_far (rowc_far (rowc_far (rowc_far (rowc_far (rowc_far h1 0 v0 hf) 1 v1 hf) 2 v2 hf) 3 v3 hf) 4 v4 hf) 5 v5 hf) 6 v6 hf) 7 v7 hf
def fbit (x : UInt8) (k : Nat) : Bool := decide (x.toNat / 2 ^ k % 2 = 1)
def adOf (x1 x2 x3 : UInt8) : Int := ((x1.toNat * 65536 + x2.toNat * 256 + x3.toNat : Nat) : Int)
def cntOf (x6 x7 : UInt8) : Int := ((x6.toNat * 256 + x7.toNat : Nat) : Int)
def decBad (x4 x6 x7 : UInt8) : Bool := decide (x4.toNat % 8 ≠ 0) || decide (cntOf x6 x7 = 0)
/-- What Decode returns of eight bytes. -/
def decC (x0 x1 x2 x3 x4 x6 x7 : UInt8) : Array Value :=
  if dirN x0.toNat = 0 then ccwZero else if dirN x0.toNat = 6 then ccwCells x0.toNat (adOf x1 x2 x3) 0 false false false false false
  else if decBad x4 x6 x7 then ccwZero else ccwCells x0.toNat (adOf x1 x2 x3) (cntOf x6 x7) (fbit x4 7) (fbit x4 6) (fbit x4 5) (fbit x4 4) (fbit x4 3)
def decB (x0 x4 x6 x7 : UInt8) : Bool :=
  if dirN x0.toNat = 0 then false else if dirN x0.toNat = 6 then true else !decBad x4 x6 x7
theorem dir_byte (x : UInt8) : dir (x.toNat : Int) = (dirN x.toNat : Int) := by
  have := x.toNat_lt
  simp [dir, inB_yes (show (0 : Int) ≤ x.toNat by omega) (show (x.toNat : Int) ≤ 255 by omega)]

theorem bit7 (x : UInt8) : (bits .and .u8 (x.toNat : Int) 128 != 0) = fbit x 7 := by
  have key : ∀ n : Fin 256, (bits .and .u8 ((n.val : Nat) : Int) 128 != 0) = decide (n.val / 2 ^ 7 % 2 = 1) := by decide +kernel
  exact key ⟨x.toNat, x.toNat_lt⟩
theorem bit6 (x : UInt8) : (bits .and .u8 (x.toNat : Int) 64 != 0) = fbit x 6 := by
  have key : ∀ n : Fin 256, (bits .and .u8 ((n.val : Nat) : Int) 64 != 0) = decide (n.val / 2 ^ 6 % 2 = 1) := by decide +kernel
  exact key ⟨x.toNat, x.toNat_lt⟩
theorem bit5 (x : UInt8) : (bits .and .u8 (x.toNat : Int) 32 != 0) = fbit x 5 := by
  have key : ∀ n : Fin 256, (bits .and .u8 ((n.val : Nat) : Int) 32 != 0) = decide (n.val / 2 ^ 5 % 2 = 1) := by decide +kernel
  exact key ⟨x.toNat, x.toNat_lt⟩
theorem bit4 (x : UInt8) : (bits .and .u8 (x.toNat : Int) 16 != 0) = fbit x 4 := by
  have key : ∀ n : Fin 256, (bits .and .u8 ((n.val : Nat) : Int) 16 != 0) = decide (n.val / 2 ^ 4 % 2 = 1) := by decide +kernel
  exact key ⟨x.toNat, x.toNat_lt⟩
theorem bit3 (x : UInt8) : (bits .and .u8 (x.toNat : Int) 8 != 0) = fbit x 3 := by
  have key : ∀ n : Fin 256, (bits .and .u8 ((n.val : Nat) : Int) 8 != 0) = decide (n.val / 2 ^ 3 % 2 = 1) := by decide +kernel
  exact key ⟨x.toNat, x.toNat_lt⟩
theorem bit_low (x : UInt8) : (bits .and .u8 (x.toNat : Int) 7 != 0) = decide (x.toNat % 8 ≠ 0) := by
  have key : ∀ n : Fin 256, (bits .and .u8 ((n.val : Nat) : Int) 7 != 0) = decide (n.val % 8 ≠ 0) := by decide +kernel
  exact key ⟨x.toNat, x.toNat_lt⟩
theorem frozen_row {w : World} {g : Nat} {cs : Array Value} {t : TypeId} (h : w.heap[g]? = some (.cells cs t (0, 0))) (k : Nat) : w.frozen? ⟨g, k, none⟩ = false := by
  simp [World.frozen?, h]

set_option maxHeartbeats 1000000 in
/-- ccw.Decode, where the length is not 8 -/
theorem decode_no (A : Option Addr) (len c : Nat) (w : World) (hl : len ≠ 8) :
    Calls Try.prog 15 #[.slice A len c] w fun e w' => e = .returned (.tuple #[.agg ccwZero, .bool false]) ∧ Below w.heap.size w w' := by
  have q : ((len : Int) != 8) = true := by rw [bne_iff_ne]; omega
  have hb1 : ∀ o, Below w.heap.size w (w.alloc o) := fun o => (Below.refl _ _).alloc (Nat.le_refl _) o
  have HB1 := Lib.hid hb1
  clear hb1 hl
  go_enter Try.func15, Try.ntmps15
  go_wp2
  refine bodyPost_ret (v := .tuple #[.agg ccwZero, .bool false]) (by simp [results, Try.results15, go_sem]; rfl) rfl ⟨rfl, ?_⟩
  first | exact HB1.out _ | exact (Below.refl _ _).alloc (Nat.le_refl _) _

end Go.Proofs.Ytheiickihjcdlaa
