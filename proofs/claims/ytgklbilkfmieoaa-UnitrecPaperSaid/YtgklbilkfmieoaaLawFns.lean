/- The law's own functions: reply, fine, few, spoil. -/
import Derived.Test.YtgklbilkfmieoaaSame
import Derived.Test.YtgklbilkfmieoaaTail
import Derived.Test.YtgklbilkfmieoaaPr
namespace Go.Proofs.Ytgklbilkfmieoaa
open Go.RowKit

set_option maxHeartbeats 1000000 in
/-- reply, of two that are the same -/
theorem reply_eq (A C : Option Addr) (l : List UInt8) (c d : Nat) (st sn : Int) (w : World) (B : Nat) (ha : At w B A (Lib.byteCells l)) (hc : At w B C (Lib.byteCells l)) (hB : B ≤ w.heap.size) (hl : l.length ≤ maxLen) :
    Calls Try.prog 16 #[.agg #[.slice A l.length c, .int .i64 st, .int .i64 sn], .agg #[.slice C l.length d, .int .i64 st, .int .i64 sn]] w fun e w' => e = .returned (.bool true) ∧ Below w.heap.size w w' := by
  have HS := Lib.hid (fun (w' : World) (h : Below w.heap.size w w') => same_any A C l l c d w' B (ha.below (h.mono hB)) (hc.below (h.mono hB)) hl hl)
  have hll : (l == l) = true := by simp
  have HL := Lib.hid hll
  have t1 : (st == st) = true := by simp
  have t2 : (sn == sn) = true := by simp
  clear hll ha hc
  go_enter Try.func16, Try.ntmps16
  go_wp2_with fail
  refine (HS.out _ (by (repeat' (first | (with_reducible exact Below.refl _ _) | (with_reducible assumption) | (with_reducible refine below_drewN ?_ _) | (with_reducible refine Below.drew ?_) | (with_reducible refine Below.alloc ?_ ?_ _) | (with_reducible refine Below.setCell ?_ ?_ _) | (with_reducible refine below_row ?_ ?_ _) | (with_reducible exact Nat.le_refl _) | omega | (simp only [World.size_alloc, World.size_setCell, World.size_drew, World.size_drewN]; omega) | (simp; done) | (simp; omega))))).mono ?_
  rw [HL.out]
  rintro e w1 ⟨rfl, ⟨m, rfl⟩⟩
  go_wp2
  go_ret
  exact ⟨rfl, by (repeat' (first | (with_reducible exact Below.refl _ _) | (with_reducible assumption) | (with_reducible refine below_drewN ?_ _) | (with_reducible refine Below.drew ?_) | (with_reducible refine Below.alloc ?_ ?_ _) | (with_reducible refine Below.setCell ?_ ?_ _) | (with_reducible refine below_row ?_ ?_ _) | (with_reducible exact Nat.le_refl _) | omega | (simp only [World.size_alloc, World.size_setCell, World.size_drew, World.size_drewN]; omega) | (simp; done) | (simp; omega)))⟩
set_option maxHeartbeats 1000000 in
theorem fine_any (v : Value) (st sn : Int) (w : World) :
    Calls Try.prog 22 #[.agg #[v, .int .i64 st, .int .i64 sn]] w fun e w' => e = .returned (.bool (st == 12 && sn == 0)) ∧ Below w.heap.size w w' := by
  by_cases h : st = 12
  · subst h
    go_enter Try.func22, Try.ntmps22
    go_wp2
    go_ret
    exact ⟨ret_bool (by simp), by (repeat' (first | (with_reducible exact Below.refl _ _) | (with_reducible assumption) | (with_reducible refine below_drewN ?_ _) | (with_reducible refine Below.drew ?_) | (with_reducible refine Below.alloc ?_ ?_ _) | (with_reducible refine Below.setCell ?_ ?_ _) | (with_reducible refine below_row ?_ ?_ _) | (with_reducible exact Nat.le_refl _) | omega | (simp only [World.size_alloc, World.size_setCell, World.size_drew, World.size_drewN]; omega) | (simp; done) | (simp; omega)))⟩
  · have ht : (st == 12) = false := by rw [beq_eq_false_iff_ne]; exact h
    rw [ht]
    go_enter Try.func22, Try.ntmps22
    go_wp2
    go_ret
    exact ⟨rfl, by (repeat' (first | (with_reducible exact Below.refl _ _) | (with_reducible assumption) | (with_reducible refine below_drewN ?_ _) | (with_reducible refine Below.drew ?_) | (with_reducible refine Below.alloc ?_ ?_ _) | (with_reducible refine Below.setCell ?_ ?_ _) | (with_reducible refine below_row ?_ ?_ _) | (with_reducible exact Nat.le_refl _) | omega | (simp only [World.size_alloc, World.size_setCell, World.size_drew, World.size_drewN]; omega) | (simp; done) | (simp; omega)))⟩

/-- A slice as a cell: address, length, capacity. -/
def sl (x : Option Addr × Nat × Nat) : Value := .slice x.1 x.2.1 x.2.2
set_option maxHeartbeats 1000000 in
/-- few -/
theorem few_any (A : Option Addr) (xs : List (Option Addr × Nat × Nat)) (c : Nat) (w : World) (B : Nat) (ha : At w B A (xs.map sl)) (hn : xs.length ≤ maxLen) (hx : ∀ x ∈ xs, x.2.1 ≤ maxLen) :
    Calls Try.prog 35 #[.slice A xs.length c] w fun e w' => e = .returned (.bool (xs.all (fun x => decide (x.2.1 ≤ 200)) && decide (xs.length ≤ 20))) ∧ w = w' := by
  unfold maxLen at hn hx
  have HX := Lib.hid hx
  clear hx
  go_enter Try.func35, Try.ntmps35
  go_wp2
  go_loop [3] (fun i => ∃ k : Nat, k ≤ xs.length ∧ i = .int .i64 k ∧ (xs.take k).all (fun x => decide (x.2.1 ≤ 200)) = true) (fun i => xs.length - (intOf i).toNat)
  case atStart => exact ⟨0, Nat.zero_le _, rfl, by simp⟩
  case round =>
    obtain ⟨k, hk, rfl, hall⟩ := hrel
    have HALL := Lib.hid hall
    clear hall
    by_cases hlt : k < xs.length
    · obtain ⟨b, off, rfl, _, hca⟩ := ha.cell (k := k) (u := sl xs[k]) (by simp [hlt])
      have hbd := HX.out xs[k] (List.getElem_mem hlt)
      have HK := Lib.hid (List.take_succ_eq_append_getElem hlt)
      have HG := Lib.hid (List.getElem?_eq_getElem hlt)
      obtain ⟨⟨A1, n1, c1⟩, hx1⟩ : ∃ x, x = xs[k] := ⟨_, rfl⟩
      rw [← hx1] at hca hbd HK HG
      have hca' : w.cell? ⟨b, off + k, none⟩ = some (.slice A1 n1 c1) := hca
      dsimp only at hbd
      clear hca hx1
      by_cases h2 : 200 < n1
      · go_wp2
        go_ret
        refine ⟨ret_bool ?_, rfl⟩
        symm
        rw [Bool.and_eq_false_iff]
        left
        rw [List.all_eq_false]
        exact ⟨(A1, n1, c1), List.mem_of_getElem? HG.out, by simp; omega⟩
      · go_wp2
        go_round
        case rel => exact ⟨k + 1, by omega, by go_num, by rw [HK.out, List.all_append, HALL.out]; simp; omega⟩
        case measure => simp [intOf]; omega
    · obtain rfl : k = xs.length := by omega
      have h := HALL.out
      rw [List.take_length] at h
      have HH := Lib.hid h
      clear h
      go_wp2
      go_ret
      exact ⟨ret_bool (by rw [HH.out, Bool.true_and, Bool.eq_iff_iff]; simp; omega), rfl⟩

/-- A slice of bytes that may be written. -/
def Wr (w : World) (v : Value) : Prop := ∃ A n c l, v = .slice A n c ∧ n = List.length l ∧ w.ownsRow 0 5 1 v n (Lib.byteCells l)
theorem Wr.store {w : World} {v : Value} (h : Wr w v) (g i : Nat) (x : UInt8) : Wr (w.setCell ⟨g, i, none⟩ (.int .u8 (x.toNat : Int))) v := by
  obtain ⟨A, n, c, l, hv, hn, ho⟩ := h
  by_cases hg : v.ownBlock = some g
  · subst hv
    obtain ⟨g', rfl⟩ : ∃ g', A = some ⟨g', 0, none⟩ := by
      rcases ho.2 with ⟨hv, _⟩ | ⟨g', cap, cur, hv, _⟩
      · injection hv with e1 _ _; subst e1; simp [Value.ownBlock] at hg
      · injection hv with e1 _ _; exact ⟨g', e1⟩
    obtain rfl : g' = g := by simpa [Value.ownBlock] using hg
    have := (ho.stored i (.int .u8 (x.toNat : Int))).1
    refine ⟨_, n, c, l.set i x, rfl, by simp [hn], ?_⟩
    have e : (Lib.byteCells l).set i (.int .u8 (x.toNat : Int)) = Lib.byteCells (l.set i x) := by simp [Lib.byteCells, List.map_set]
    rw [← e]
    exact this
  · exact ⟨A, n, c, l, hv, hn, own_far ho (fun e => hg e) _⟩
theorem Wr.of_own {w : World} {B n c : Nat} {A : Option Addr} {l : List UInt8} (h : w.ownsRow B 5 1 (.slice A n c) n (Lib.byteCells l)) : Wr w (.slice A n c) :=
  ⟨A, n, c, l, rfl, by have := h.1; simp [Lib.byteCells] at this; omega, own_mono h (Nat.zero_le _)⟩

/-- What spoil may turn. -/
def SpT (vs : List Value) (b : Nat) : Prop := ∃ v ∈ vs, v.ownBlock = some b
def SpInv (w : World) (O : Option Addr) (c : Nat) (vs : List Value) (wr : World) : Prop :=
  wr.ownsRow 0 31 1 (.slice O vs.length c) vs.length vs ∧ (∀ v ∈ vs, Wr wr v) ∧ Fr (SpT vs) w wr
theorem SpInv.drew {w wr : World} {O : Option Addr} {c : Nat} {vs : List Value} (h : SpInv w O c vs wr) : SpInv w O c vs wr.drew :=
  ⟨h.1, h.2.1, h.2.2.drew⟩
theorem Wr.grow {w w' : World} {v : Value} (h : Wr w v) (hb : Below w.heap.size w w') : Wr w' v := by
  obtain ⟨A, n, c, l, hv, hn, ho⟩ := h
  exact ⟨A, n, c, l, hv, hn, own_grow ho hb⟩
theorem Wr.ty {w : World} {v : Value} (h : Wr w v) : ∀ g, v.ownBlock = some g → ∃ cs fr, w.heap[g]? = some (.cells cs 5 fr) := by
  obtain ⟨A, n, c, l, rfl, hn, ho⟩ := h
  intro g hg
  rcases ho.2 with ⟨hv, _⟩ | ⟨g', cap, cur, hv, _, hh, _⟩
  · injection hv with e1 _ _; subst e1; simp [Value.ownBlock] at hg
  · have hgg : g' = g := by rw [hv] at hg; simpa [Value.ownBlock] using hg
    subst hgg
    exact ⟨_, _, hh⟩
theorem SpInv.store {w wr : World} {O : Option Addr} {c : Nat} {vs : List Value} (h : SpInv w O c vs wr) {v : Value} (hv : v ∈ vs) {g : Nat} (hg : v.ownBlock = some g) (i : Nat) (x : UInt8) : SpInv w O c vs (wr.setCell ⟨g, i, none⟩ (.int .u8 (x.toNat : Int))) := by
  obtain ⟨cs, fr, hty⟩ := (h.2.1 v hv).ty g hg
  exact ⟨own_far h.1 (own_row_ne h.1 hty (by decide)) _, fun u hu => (h.2.1 u hu).store g i x, h.2.2.setCell (fun _ => ⟨v, hv, hg⟩) _⟩

theorem SpInv.grow {w wr w' : World} {O : Option Addr} {c : Nat} {vs : List Value} (h : SpInv w O c vs wr) (hb : Below wr.heap.size wr w') : SpInv w O c vs w' :=
  ⟨own_grow h.1 hb, fun v hv => (h.2.1 v hv).grow hb, h.2.2.then hb⟩

set_option maxHeartbeats 2000000 in
/-- spoil -/
theorem spoil_any (O : Option Addr) (c : Nat) (vs : List Value) (w : World) (ho : w.ownsRow 0 31 1 (.slice O vs.length c) vs.length vs) (hv : ∀ v ∈ vs, Wr w v) :
    Calls Try.prog 18 #[.slice O vs.length c] w fun e w' => e = .returned (.tuple #[]) ∧ Fr (SpT vs) w w' := by
  have hm : vs.length ≤ maxLen := by obtain ⟨A, c', e, h1, h2⟩ := own_slice ho; omega
  unfold maxLen at hm
  have HI := Lib.hid (⟨ho, hv, Fr.refl _ _⟩ : SpInv w O c vs w)
  clear ho hv
  go_enter Try.func18, Try.ntmps18
  go_wp2
  go_loopw [2, 3] (fun i _ wr => ∃ k : Nat, k ≤ vs.length ∧ i = .int .i64 k ∧ SpInv w O c vs wr) (fun i _ _ => vs.length - (intOf i).toNat)
  case atStart => exact ⟨0, Nat.zero_le _, rfl, HI.out⟩
  case round =>
    obtain ⟨k, hk, rfl, hinv⟩ := hrel
    have HV := Lib.hid hinv
    clear hinv HI
    by_cases hlt : k < vs.length
    · obtain ⟨A1, n1, c1, l1, hv1, hn1, ho1⟩ := HV.out.2.1 vs[k] (List.getElem_mem hlt)
      have hn1m : n1 ≤ 9223372036854775807 := by obtain ⟨A', c', e, h1, h2⟩ := own_slice (hv1 ▸ ho1); unfold maxLen at h2; omega
      have HK := Lib.hid (List.getElem_mem hlt)
      rw [hv1] at HK
      have HG := Lib.hid ((List.getElem?_eq_getElem hlt).trans (by rw [hv1]) : vs[k]? = some (.slice A1 n1 c1))
      have H1 := Lib.hid (hv1 ▸ ho1 : wr.ownsRow 0 5 1 (.slice A1 n1 c1) n1 (Lib.byteCells l1))
      clear hv1 ho1 hn1
      obtain ⟨ob, rfl, _, _⟩ := own_head HV.out.1 (by omega)
      have hcell : ∀ wr, SpInv w (some ⟨ob, 0, none⟩) c vs wr → wr.cell? ⟨ob, k, none⟩ = some (.slice A1 n1 c1) := fun wr h => by rw [h.1.cellAt k (by omega)]; exact HG.out
      have HC := Lib.hid hcell
      clear hcell
      go_wp2
      obtain ⟨wo, hwo⟩ : ∃ wo : World, wo = wr := ⟨_, rfl⟩
      rw [← hwo]
      rw [← hwo] at HV
      clear hwo H1
      go_loopw [3] (fun j wr => ∃ i : Nat, j = .int .i64 i ∧ SpInv w (some ⟨ob, 0, none⟩) c vs wr) (fun j _ => n1 - (intOf j).toNat)
      case atStart => exact ⟨0, rfl, HV.out⟩
      case round =>
        obtain ⟨i, rfl, hinv⟩ := hrel
        have hc := HC.out _ hinv
        have HV' := Lib.hid hinv
        clear hinv
        by_cases hi : i < n1
        · obtain ⟨A2, n2, c2, l2, hv2, hn2, ho2⟩ := HV'.out.2.1 _ HK.out
          injection hv2 with e1 e2 e3
          subst e1; subst e2; subst e3
          obtain ⟨g, rfl, _, _⟩ := own_head ho2 (by omega)
          have hx := ho2.cellAt i (by omega)
          have hf := ho2.frozenAt i
          rw [byteCells_get l2 i (by omega)] at hx
          generalize l2[i] = x at *
          have hx1 := x.toNat_lt
          have hwrap : ((x.toNat : Int) + 1) % 256 = ((x + 1).toNat : Int) := by
            rw [UInt8.toNat_add]
            rfl
          generalize x + 1 = y at *
          have HF := Lib.hid (fun (wx : World) (hb : Below wr.heap.size wr wx) => (⟨(hb.cell (p := ⟨ob, k, none⟩) (World.block_lt_of_cell? wr ⟨ob, k, none⟩ hc)).trans hc, (hb.cell (p := ⟨g, i, none⟩) (World.block_lt_of_cell? wr ⟨g, i, none⟩ hx)).trans hx⟩ : wx.cell? ⟨ob, k, none⟩ = some (.slice (some ⟨g, 0, none⟩) n1 c1) ∧ wx.cell? ⟨g, i, none⟩ = some (.int .u8 (x.toNat : Int))))
          have hkI : (k : Int) < (vs.length : Int) := by omega
          have hk0 : (0 : Int) ≤ (k : Int) := by omega
          have hiI : (i : Int) < (n1 : Int) := by omega
          have hi0 : (0 : Int) ≤ (i : Int) := by omega
          have HN := Lib.hid (fun (wx : World) (h : SpInv w (some ⟨ob, 0, none⟩) c vs wx) => h.store HK.out (g := g) (by simp [Value.ownBlock]) i y)
          clear hn2 ho2
          go_wp2_with fail
          refine wp_region_order (Below wr.heap.size wr) [0, 1, 2, 4, 5, 6, 7, 9] [3, 8, 10, 11, 12, 13] [] [] [14] (by kernel_rfl) (by kernel_rfl) (by (repeat' (first | (with_reducible exact Below.refl _ _) | (with_reducible assumption) | (with_reducible refine below_drewN ?_ _) | (with_reducible refine Below.drew ?_) | (with_reducible refine Below.alloc ?_ ?_ _) | (with_reducible refine Below.setCell ?_ ?_ _) | (with_reducible refine below_row ?_ ?_ _) | (with_reducible exact Nat.le_refl _) | omega | (simp only [World.size_alloc, World.size_setCell, World.size_drew, World.size_drewN]; omega) | (simp; done) | (simp; omega)))) (by intro c a d v w h; cases d <;> exact h) ?_
          simp only [pick, List.filterMap_cons, List.filterMap_nil, List.getElem?_cons_zero, List.getElem?_cons_succ]
          repeat (refine wpPure_step (fun K hK => ?_); go_simp; refine hK _ ?_; clear hK K)
          refine wpPure_nil ?_
          repeat (refine wpLoads_step (fun K hK => ?_); go_simp; first | (refine hK _ ?_; clear hK K) | (refine ⟨_, fun wx hx => (by obtain ⟨f1, f2⟩ := HF.out wx hx; go_simp; rfl), hK _ ?_⟩; clear hK K))
          refine wpLoads_nil (wpQuiet_nil ?_)
          intro w1 hw1
          have hcx := (HF.out w1 hw1).2
          have hfx : w1.frozen? ⟨g, i, none⟩ = false := by
            have := HV'.out.grow hw1
            obtain ⟨A3, n3, c3, l3, hv3, hn3, ho3⟩ := this.2.1 _ HK.out
            injection hv3 with e1 e2 e3
            subst e1; subst e2
            exact ho3.frozenAt i
          have HV1 := Lib.hid (HN.out w1 (HV'.out.grow hw1))
          clear hc hx hf hw1
          refine wpKeep_nil ?_
          go_wp2
          go_roundw
          case rel => exact ⟨i + 1, by go_num, HV1.out⟩
          case measure => simp [intOf]; omega
        · go_wp2
          go_roundw
          case rel => exact ⟨k + 1, by omega, by go_num, HV'.out⟩
          case measure => simp [intOf]; omega
    · go_wp2
      go_end0
      exact ⟨rfl, HV.out.2.2⟩
end Go.Proofs.Ytgklbilkfmieoaa
