/- Used of the program: a range over a function. -/
import Derived.Test.YtmkndbledppniaaGreatRec
import Derived.Laws.EntriesVeiled
import Derived.RangeFuncNested
import Derived.RangeFuncBound
import Derived.RangeFuncCalls
import Derived.RangeFuncLeaves
import Derived.RangeFuncFrom
import Derived.Shelf.Abstract
import Derived.Shelf.RegionOpen
import Derived.OwnWalkIn
import Derived.TacticsInMore
import Derived.LoopNIn
import Derived.LoopIn
namespace Go.Proofs.YtmkndbledppniaaGreat
open Go.RowKit Go.Shelf
attribute [local go_sem] Oper.semAt_some

abbrev CostV := { x : Nat // x ≤ 281474976710704 }
theorem Below.grownBy_none {w w' : World} (b : Below w.heap.size w w') : w.grownBy w' none := ⟨b.os, b.tape, b.output, b.size, fun k hk _ => b.block k hk⟩
theorem costs_any (A : Option Addr) (n c : Nat) (w : World) :
    Calls Tryz.prog 92 #[.slice A n c] w fun e w' => e = .returned (.func (.func 102) #[] #[.pointer (some ⟨w.heap.size, 0, none⟩)]) ∧ w.alloc (.cells #[.slice A n c] 35) = w' := by
  go_enter Tryz.func92, Tryz.ntmps92
  go_wp2
  go_ret
  exact ⟨rfl, rfl⟩
set_option maxRecDepth 100000 in
set_option maxHeartbeats 2000000 in
theorem costs1_in (l Bn : Nat) (w0 : World) (A : Option Addr) (rs : List Rec) (c : Nat) (hr : RecsAt w0 A rs) (hf : Fit rs) (J Jx : List CostV → World → Prop) (W : World) (n : Nat) (hn : 2 ≤ n)
    (hJ : AbidesFrom W.heap.size J)
    (hY : ∀ pre x W1, J pre W1 → pre.length < rs.length → YieldAt Fence.wide (n - 1) Tryz.prog l #[.int .i64 ((x : CostV).1 : Int)] W1 fun e W' =>
      (e = .returned (.bool true) ∧ J (pre ++ [x]) W' ∧ Below w0.heap.size W1 W') ∨ (e = .returned (.bool false) ∧ Jx (pre ++ [x]) W'))
    (hb : Below w0.heap.size w0 W) (hBn : W.cell? ⟨Bn, 0, none⟩ = some (.slice A rs.length c)) (h0 : J [] W) :
    CallsIn Fence.wide n Tryz.prog 102 #[.func (.yield l) #[] #[], .pointer (some ⟨Bn, 0, none⟩)] W fun e W' => (∃ v, e = .returned v) ∧
      ((∃ ys, (ys : List CostV).map Subtype.val = rs.map Rec.cost ∧ J ys W') ∨ (∃ pre, Jx pre W')) := by
  refine callsIn_of_wp Tryz.func102 rfl trivial ?_ rfl
  simp only [Tryz.ntmps102, List.size_toArray, List.length_cons, List.length_nil, Nat.reduceAdd, Nat.reduceSub, Array.replicate_succ, Array.replicate_zero, List.push_toArray, List.append_toArray, List.nil_append, List.cons_append]
  have hfl := hf.1
  gi_wp2
  gi_loopw [7] (fun p wr => ∃ (k : Nat) (pre : List CostV), k ≤ rs.length ∧ p = .int .i64 k ∧ pre.map Subtype.val = (rs.take k).map Rec.cost ∧ Below w0.heap.size w0 wr ∧ W.heap.size ≤ wr.heap.size ∧ J pre wr) (fun p _ => rs.length - (intOf p).toNat)
  case atStart => exact ⟨0, [], Nat.zero_le _, rfl, by simp, hb, Nat.le_refl _, h0⟩
  case round =>
    obtain ⟨k, pre, hk, rfl, hp, hbr, hsz, hJs⟩ := hrel
    by_cases hlt : k < rs.length
    · have hx : rs[k]? = some rs[k] := by simp [hlt]
      have hfx := hf.2 rs[k] (List.getElem_mem hlt)
      have hpl : pre.length = k := by have := congrArg List.length hp; simpa [Nat.min_eq_left hk] using this
      have hnext : rs.map Rec.cost = rs.map Rec.cost := rfl
      generalize rs[k] = x at hx hfx
      obtain ⟨g, off, Ak, ck, Ad, cd, hA, k0, k1, k2, k3, a1, a2⟩ := hr k x hx
      subst hA
      have z0 := World.block_lt_of_cell? w0 _ k0
      have d0 := (hbr.cell (p := ⟨g, off + k * 4, none⟩) z0).trans k0
      have d1 := (hbr.cell (p := ⟨g, off + k * 4 + 1, none⟩) z0).trans k1
      have d2 := (hbr.cell (p := ⟨g, off + k * 4 + 2, none⟩) z0).trans k2
      have d3 := (hbr.cell (p := ⟨g, off + k * 4 + 3, none⟩) z0).trans k3
      clear k0 k1 k2 k3 a1 a2
      have HX := Lib.hid hx
      clear hx hnext
      gi_wp2
      refine ⟨trivial, fun _ => by omega, ?_⟩
      refine (callsIn_wide.2 (cost_any x.r Ak Ad x.key.length x.data.length ck cd x.bad _ (by omega) (by omega))).mono ?_
      rintro e w2 ⟨rfl, b2⟩
      have ba := (Below.refl wr.heap.size wr).alloc (Nat.le_refl _) (.cells #[.int .i64 x.r, .slice Ak x.key.length ck, .slice Ad x.data.length cd, .bool x.bad] 62)
      have b3 := ba.trans (b2.mono (by rw [World.size_alloc]; omega))
      have hJ2 : J pre w2 := hJ pre wr w2 none hJs (Below.grownBy_none b3) (fun r e => by cases e)
      have hbw : Below w0.heap.size w0 w2 := hbr.trans (b3.mono hbr.size)
      have hs2 := b3.size
      obtain ⟨fn, tmps, assign, body, hy, hR⟩ := hY pre ⟨x.cost, cost_le hfx⟩ w2 hJ2 (by omega)
      have hy' := hy
      dsimp only [Rec.cost] at hy hR
      clear b2 ba
      gi_wp2
      refine ⟨fun _ => by omega, hR.mono ?_⟩
      rintro e W3 (⟨rfl, hJ3, hk3⟩ | ⟨rfl, hJx3⟩)
      · gi_wp2
        go_roundw
        case rel =>
          refine ⟨k + 1, pre ++ [⟨x.cost, cost_le hfx⟩], by omega, by go_num, ?_, hbw.trans hk3, ?_, hJ3⟩
          · rw [List.take_add_one, HX.out, List.map_append, List.map_append, hp]; rfl
          · have := hk3.size; omega
        case measure => simp [intOf]; omega
      · gi_wp2
        refine bodyPost_ret (results_none rfl _ _ _) rfl ?_
        exact ⟨⟨_, rfl⟩, .inr ⟨_, hJx3⟩⟩
    · obtain rfl : k = rs.length := by omega
      gi_wp2
      go_end0
      exact ⟨⟨_, rfl⟩, .inl ⟨pre, by rw [hp, List.take_of_length_le (Nat.le_refl _)], hJs⟩⟩
/-- sum += n -/
theorem add_any (sb : Nat) (s x : Nat) (w : World) (hs : s + x ≤ 4611686018427387904) (hc : w.cell? ⟨sb, 0, none⟩ = some (.int .i64 (s : Int))) (hf : w.frozen? ⟨sb, 0, none⟩ = false) :
    Calls Tryz.prog 91 #[.int .i64 (x : Int), .pointer (some ⟨sb, 0, none⟩)] w fun e w' => e = .returned (.tuple #[]) ∧ w.setCell ⟨sb, 0, none⟩ (.int .i64 ((s + x : Nat) : Int)) = w' := by
  go_enter Tryz.func91, Tryz.ntmps91
  go_wp2
  go_end0
  exact ⟨rfl, by push_cast; rfl⟩
theorem cost_sum {pre : List CostV} : (pre.map Subtype.val).sum ≤ pre.length * 281474976710704 := by
  induction pre with
  | nil => simp
  | cons x l ih => have := x.2; simp only [List.map_cons, List.sum_cons, List.length_cons]; omega
set_option maxRecDepth 100000 in
set_option maxHeartbeats 2000000 in
theorem used_any (A : Option Addr) (rs : List Rec) (c : Nat) (w : World) (hr : RecsAt w A rs) (hf : Fit rs) :
    Calls Tryz.prog 74 #[.slice A rs.length c] w fun e w' => e = .returned (.int .i64 (usedN rs : Nat)) ∧ Below w.heap.size w w' := by
  have hfl := hf.1
  refine (callsIn_wide (n := 8)).1 ?_
  refine callsIn_of_wp_marks Tryz.func74 rfl trivial ?_ rfl
  simp only [Tryz.ntmps74, List.size_toArray, List.length_cons, List.length_nil, Nat.reduceAdd, Nat.reduceSub, Array.replicate_succ, Array.replicate_zero, List.push_toArray, List.append_toArray, List.nil_append, List.cons_append]
  have hr1 : ((w.alloc (.cells #[.int .i64 0] 3)).alloc (.cells #[.nilFunc] 105)).heap[w.heap.size + 1]? = some (.cells #[.nilFunc] 105 (0, 0)) := by
    have h := World.alloc_heap_new (w.alloc (.cells #[.int .i64 0] 3)) (.cells #[.nilFunc] 105)
    rwa [World.size_alloc] at h
  obtain ⟨L1, F1, _⟩ := row_look hr1
  have c1 : ((w.alloc (.cells #[.int .i64 0] 3)).alloc (.cells #[.nilFunc] 105)).cell? ⟨w.heap.size + 1, 0, none⟩ = some .nilFunc := L1 0
  have c2 := F1 0
  clear L1 F1 hr1
  gi_wp2
  refine ⟨trivial, ?_⟩
  refine (callsIn_wide.2 (costs_any A rs.length c _)).mono ?_
  rintro e w1 ⟨rfl, hw1⟩
  simp only [World.size_alloc] at hw1 ⊢
  have b1 : Below w.heap.size w w1 := by rw [← hw1]; (repeat' (first | (with_reducible exact Below.refl _ _) | (with_reducible assumption) | (with_reducible refine below_drewN ?_ _) | (with_reducible refine Below.drew ?_) | (with_reducible refine Below.alloc ?_ ?_ _) | (with_reducible refine Below.setCell ?_ ?_ _) | (with_reducible refine below_row ?_ ?_ _) | (with_reducible exact Nat.le_refl _) | omega | (simp only [World.size_alloc, World.size_setCell, World.size_drew, World.size_drewN]; omega) | (simp; done) | (simp; omega)))
  have z1 : w1.heap.size = w.heap.size + 3 := by rw [← hw1]; simp only [World.size_alloc]
  have hs : w1.heap[w.heap.size]? = some (.cells #[.int .i64 0] 3 (0, 0)) := by
    rw [← hw1]
    exact (Below.heap_alloc _ _ _ (by simp only [World.size_alloc]; omega)).trans ((Below.heap_alloc _ _ _ (by simp only [World.size_alloc]; omega)).trans (World.alloc_heap_new w _))
  have ha : w1.heap[w.heap.size + 1]? = some (.cells #[.func (.func 91) #[] #[.pointer (some ⟨w.heap.size, 0, none⟩)]] 105 (0, 0)) := by
    rw [← hw1]
    refine (Below.heap_alloc _ _ _ (by simp only [World.size_alloc]; omega)).trans ?_
    have h := World.alloc_heap_new (w.alloc (.cells #[.int .i64 0] 3)) (.cells #[.func (.func 91) #[] #[.pointer (some ⟨w.heap.size, 0, none⟩)]] 105)
    rwa [World.size_alloc] at h
  have hc : w1.heap[w.heap.size + 1 + 1]? = some (.cells #[.slice A rs.length c] 35 (0, 0)) := by
    rw [← hw1]
    have h := World.alloc_heap_new ((w.alloc (.cells #[.int .i64 0] 3)).alloc (.cells #[.func (.func 91) #[] #[.pointer (some ⟨w.heap.size, 0, none⟩)]] 105)) (.cells #[.slice A rs.length c] 35)
    simpa only [World.size_alloc] using h
  clear hw1 c1 c2
  have ls := row_look hs
  have la := row_look ha
  have lc := row_look hc
  gi_wp2
  refine wpIn_rangeFunc_ownF (α := CostV) rfl (by omega) (gf := 102) (lb := #[.pointer (some ⟨w.heap.size + 1 + 1, 0, none⟩)]) rfl trivial (enters_of Tryz.func102 (by kernel_rfl) rfl)
    (encs := fun x => #[.int .i64 (x.1 : Int)]) (Kp := Below w.heap.size) (S := fun xs => xs.map Subtype.val = rs.map Rec.cost) (Sp := fun _ => True) (N := rs.length) (w0 := w1)
    (fun l J Jx W hW hJ _ hY h0 => (costs1_in l (w.heap.size + 1 + 1) w A rs c hr hf J Jx W _ (by omega) hJ hY (b1.trans (hW.mono b1.size)) ((hW.cell (p := ⟨w.heap.size + 1 + 1, 0, none⟩) (by show w.heap.size + 1 + 1 < _; omega)).trans (lc.1 0)) h0).mono (fun e W' h => ⟨h.1, h.2.imp id (fun ⟨pre, h⟩ => ⟨pre, trivial, h⟩)⟩))
    belowK_t (belowK_b (by omega)) (Below.refl _ _) (fun _ => rfl)
    (fun pre W => (W.cell? ⟨w.heap.size, 0, none⟩ = some (.int .i64 (((pre.map Subtype.val).sum : Nat) : Int)) ∧ W.frozen? ⟨w.heap.size, 0, none⟩ = false ∧ W.cell? ⟨w.heap.size + 1, 0, none⟩ = some (.func (.func 91) #[] #[.pointer (some ⟨w.heap.size, 0, none⟩)])) ∧ Below w.heap.size w W)
    (fun _ _ _ => False)
    (OwnFrom.and (Own.from (fun s A B row hs hg hr => ⟨cell_kept hs.1 hg hr, (frozen_kept hs.1 hg hr).trans hs.2.1, cell_kept hs.2.2 hg hr⟩) _) (ownFrom_below (Nat.le_refl _) (by omega)))
    (fun _ _ _ _ _ hs _ _ => hs)
    ⟨⟨ls.1 0, ls.2.1 0, la.1 0⟩, b1⟩
    (fun x => { tmps := #[.slice A rs.length c, undef, .int .i64 0, .pointer (some ⟨w.heap.size, 0, none⟩), .pointer (some ⟨w.heap.size + 1, 0, none⟩), .int .i64 (x.1 : Int), .func (.func 91) #[] #[.pointer (some ⟨w.heap.size, 0, none⟩)], .slice A rs.length c, .func (.func 102) #[] #[.pointer (some ⟨w.heap.size + 1 + 1, 0, none⟩)], .int .i64 (x.1 : Int), undef, undef, undef, undef], defers := [] }) ?assign ?body ?done ?stop
  case assign =>
    intro l x W K hK
    gi_wp2
    exact hK
  case body =>
    rintro l pre x W ⟨⟨hc, hf, hg⟩, hB⟩ hl
    have hsum := cost_sum (pre := pre)
    have hx := x.2
    gi_wp2
    refine ⟨trivial, ?_⟩
    refine (CallsIn.inRound l (callsIn_wide.2 (add_any w.heap.size (pre.map Subtype.val).sum x.1 W (by omega) hc hf))).mono ?_
    rintro e w' ⟨rfl, rfl⟩
    gi_wp2
    refine ⟨KeepsOthers.setCell _ _ _, (Below.refl w.heap.size W).setCell (p := ⟨w.heap.size, 0, none⟩) (Nat.le_refl _) _, ⟨?_, ?_, ?_⟩, hB.setCell (p := ⟨w.heap.size, 0, none⟩) (Nat.le_refl _) _⟩
    · rw [World.cell?_setCell_same' _ _ _ (by rw [hc]; rfl)]; simp
    · rw [World.frozen?_setCell]; exact hf
    · exact (World.cell?_setCell_far W ⟨w.heap.size, 0, none⟩ ⟨w.heap.size + 1, 0, none⟩ _ (by show w.heap.size ≠ w.heap.size + 1; omega)).trans hg
  case done =>
    rintro D ys W hD hys ⟨⟨hc, _⟩, hB⟩ hK
    gi_wp2
    refine ⟨by simp, .inl ⟨_, _, rfl, run_takeDeferred hK, ?_⟩⟩
    exact ⟨_, results_tmp rfl _ _ _, rfl, hB.trans (belowK_b (w := w) (Nat.le_refl _) W D _ _ (by omega) hK rfl rfl)⟩
  case stop =>
    rintro D c pre W _ _ h _
    exact h.elim
end Go.Proofs.YtmkndbledppniaaGreat
