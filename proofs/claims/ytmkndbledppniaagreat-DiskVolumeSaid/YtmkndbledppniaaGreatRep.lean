/- Rep, Half. -/
import Derived.Test.YtmkndbledppniaaGreatReplace
import Derived.Test.YtmkndbledppniaaGreatKitA
import Derived.Lib.MakeNoZero
namespace Go.Proofs.YtmkndbledppniaaGreat
open Go.RowKit
section
variable {W w : World} {F : List SA}
set_option maxRecDepth 100000 in
theorem mul64_1_8 (w : World) : Calls Tryz.prog 112 #[.int .u64 1, .int .u64 8] w fun e w' => e = .returned (.tuple #[.int .u64 0, .int .u64 8]) ∧ w = w' := by
  go_enter Tryz.func112, Tryz.ntmps112
  go_wp2
  go_ret2
  exact ⟨rfl, rfl⟩
set_option maxRecDepth 100000 in
theorem mul_1_8 (w : World) : Calls Tryz.prog 106 #[.int .u64 1, .int .u64 8] w fun e w' => e = .returned (.tuple #[.int .u64 0, .int .u64 8]) ∧ w = w' := by
  go_enter Tryz.func106, Tryz.ntmps106
  go_wp2_with fail
  refine (mul64_1_8 _).mono ?_
  rintro e w' ⟨rfl, rfl⟩
  go_wp2
  go_ret2
  exact ⟨rfl, rfl⟩
def ff8 : List UInt8 := [255, 255, 255, 255, 255, 255, 255, 255]
set_option maxRecDepth 100000 in
set_option maxHeartbeats 4000000 in
theorem repeat_any (A : Option Addr) (c : Nat) (S : SL W F w) (hr : At w w.heap.size A (Lib.byteCells [255])) :
    Calls Tryz.prog 99 #[.slice A 1 c, .int .i64 8] w fun e w' => ∃ A' c', e = .returned (.slice A' 8 c') ∧ SL W (rowT 5 1 (.slice A' 8 c') 8 (Lib.byteCells ff8) :: F) w' := by
  have HS := Lib.hid S
  have HA := Lib.hid hr
  obtain ⟨ab, ao, hA, hab, _⟩ := hr (by simp [Lib.byteCells])
  clear S hr
  obtain ⟨cs, hrun, hc1, hc2⟩ := Lib.run_makeNoZero (P := Tryz.prog) w Tryz.f107.params 34 5 Tryz.underlying34 8 (by decide)
  rw [show ((8 : Nat) : Int) = 8 from rfl] at hrun
  have HRUN := Lib.hid hrun
  have HC := Lib.hid (And.intro hc1 (hc2 (by decide)))
  clear hrun hc1 hc2
  go_enter Tryz.func99, Tryz.ntmps99
  go_wp2_with fail
  refine (mul_1_8 _).mono ?_
  rintro e w1 ⟨rfl, rfl⟩
  go_wp2_with fail
  rw [run_callFunc_extern Tryz.func107 (by kernel_rfl) (by kernel_rfl) (by kernel_rfl) (e := Extern.BytealgMakeNoZero.makeNoZero Tryz.f107.params #[34]) (by kernel_rfl), HRUN.out]
  simp only [Result.andThen]
  rw [Oper.upon_value]
  have HSL := Lib.hid ((HS.out.drew.drew).allocC cs 5)
  have H1 := Lib.hid HSL.out
  have HA1 := Lib.hid (show At (w.drew.drew.alloc (.cells cs 5)) w.heap.size (some ⟨ab, ao, none⟩) (Lib.byteCells [255]) by rw [← hA]; exact (show At w.drew.drew w.heap.size A (Lib.byteCells [255]) from HA.out).alloc (Nat.le_refl _) _)
  have H2 := Lib.hid (((HS.out.allocC cs 5).drew.drew).setRow (cs' := (Value.int IntKind.u8 255 :: cs.toList.tail).toArray))
  clear HSL HRUN HS
  have hcs : 8 ≤ cs.size := HC.out.1
  have hf8 : (Lib.byteCells [(255 : UInt8)]) = [.int .u8 255] := rfl
  obtain ⟨ab', ao', hA', _, hcell⟩ := HA1.out (by simp [Lib.byteCells])
  obtain ⟨rfl, rfl⟩ : ab = ab' ∧ ao = ao' := by injection hA' with h; injection h with h1 h2; exact ⟨h1, h2⟩
  have c0 := hcell 0 _ rfl
  have C0 := Lib.hid c0
  clear hcell c0 hA'
  go_wp2_with (refine wpList_copy_own rfl _ _ _ _ rfl 5 Tryz.underlying34 (by kernel_rfl) w.heap.size 0 8 8 ⟨ab, ao, none⟩ 1 c rfl rfl cs 5 H1.out.crow [.int .u8 255] rfl (by
                 intro j v hj
                 match j, hj with
                 | 0, hj => injection hj with hj; subst hj; rw [add_none]; exact C0.out) (by simp; omega) (by simp [Value.oneCell']) ?_)
  have hz2 : 8 ≤ ((Value.int IntKind.u8 255 :: cs.toList.tail).toArray).size ∧ ((Value.int IntKind.u8 255 :: cs.toList.tail).toArray).size ≤ maxLen := by
    have := HC.out.2
    simp; omega
  have hq2 : ∀ j, j < 1 → ((Value.int IntKind.u8 255 :: cs.toList.tail).toArray)[j]? = some (Value.int .u8 255) := by
    intro j hj
    obtain rfl : j = 0 := by omega
    simp
  have HQ := Lib.hid (And.intro hz2 hq2)
  clear hz2 hq2 H1 HA1 C0 HC hcs
  go_loopw [10] (fun i wr => ∃ (m : Nat) (cu : Array Value), 1 ≤ m ∧ m ≤ 8 ∧ i = .int .i64 m ∧ 8 ≤ cu.size ∧ cu.size ≤ maxLen ∧ (∀ j, j < m → cu[j]? = some (.int .u8 255)) ∧ SL W (cel w.heap.size cu 5 :: F) wr) (fun i _ => 8 - (intOf i).toNat)
  case atStart => exact ⟨1, _, Nat.le_refl _, by decide, rfl, HQ.out.1.1, HQ.out.1.2, HQ.out.2, H2.out⟩
  case round =>
    clear HQ
    obtain ⟨m, cu, h1, h2, rfl, h3, h4, h5, S1⟩ := hrel
    have H3 := Lib.hid S1
    have HQ := Lib.hid (And.intro h4 h5)
    clear S1 H2 h4 h5
    generalize w.heap.size = gb at *
    by_cases hlt : m < 8
    · have hmin : min (m : Int) 8 = (m : Int) := by omega
      have hn : ([List.replicate (min m (8 - m)) (Value.int .u8 255)].flatten).length = min m (8 - m) := by simp
      go_upto_region 20 with fail
      refine wp_region_order (fun wx => wx = wr.drew) [0, 1, 2, 3, 4, 5, 6] [] [] [] [7, 8, 9] (by kernel_rfl) (by kernel_rfl) rfl (by intro c a d v w h; cases d <;> exact h) ?_
      simp only [pick, List.filterMap_cons, List.filterMap_nil, List.getElem?_cons_zero, List.getElem?_cons_succ]
      have e1 : ((m : Int) ≤ 8) = True := eq_true (by omega)
      have e2 : (8 = m) = False := eq_false (by omega)
      (repeat (with_reducible refine wpPure_step ?_; intro K hK; go_simp; with_reducible refine hK _ ?_; clear hK K))
      refine wpPure_nil ?_
      refine wpLoads_nil (wpQuiet_nil ?_)
      intro wq hwq
      have H4 := Lib.hid (hwq ▸ H3.out.drew : SL W _ wq)
      clear hwq H3
      refine wpKeep_nil ?_
      show wpList _ _ _ _ _ _
      refine wpList_copy_own rfl _ _ _ _ rfl 5 Tryz.underlying34 (by kernel_rfl) gb m (8 - m) (8 - m) ⟨gb, 0, none⟩ m 8 rfl rfl cu 5 H4.out.crow (List.replicate (min m (8 - m)) (.int .u8 255)) (by simp) (by
                     intro j v hj
                     rw [List.getElem?_replicate] at hj
                     split at hj
                     · injection hj with hj; subst hj; rw [add_none, Nat.zero_add, H4.out.look.1]; exact HQ.out.2 j (by omega)
                     · cases hj) (by simp; omega) (by intro v hv; rw [List.eq_of_mem_replicate hv]; rfl) ?_
      have h6 := H4.out.setRow (cs' := (List.take m cu.toList ++ (List.replicate (min m (8 - m)) (Value.int IntKind.u8 255) ++ List.drop (m + (List.replicate (min m (8 - m)) (Value.int IntKind.u8 255)).length) cu.toList)).toArray)
      have hq : ∀ j, j < m + min m (8 - m) → ((List.take m cu.toList ++ (List.replicate (min m (8 - m)) (Value.int IntKind.u8 255) ++ List.drop (m + (List.replicate (min m (8 - m)) (Value.int IntKind.u8 255)).length) cu.toList)).toArray)[j]? = some (.int .u8 255) := by
        intro j hj
        rw [List.getElem?_toArray]
        by_cases h : j < m
        · rw [List.getElem?_append_left (by rw [List.length_take, Array.length_toList]; omega), List.getElem?_take, if_pos h, Array.getElem?_toList]
          exact HQ.out.2 j h
        · rw [List.getElem?_append_right (by rw [List.length_take, Array.length_toList]; omega), List.length_take, Nat.min_eq_left (show m ≤ cu.toList.length by rw [Array.length_toList]; omega), List.getElem?_append_left (by rw [List.length_replicate]; omega), List.getElem?_replicate, if_pos (by omega)]
      have hz : ((List.take m cu.toList ++ (List.replicate (min m (8 - m)) (Value.int IntKind.u8 255) ++ List.drop (m + (List.replicate (min m (8 - m)) (Value.int IntKind.u8 255)).length) cu.toList)).toArray).size = cu.size := by
        simp only [List.size_toArray, List.length_append, List.length_take, List.length_replicate, List.length_drop, Array.length_toList]
        omega
      have hz8 : 8 ≤ cu.size := h3
      generalize (List.take m cu.toList ++ (List.replicate (min m (8 - m)) (Value.int IntKind.u8 255) ++ List.drop (m + (List.replicate (min m (8 - m)) (Value.int IntKind.u8 255)).length) cu.toList)).toArray = cu2 at *
      refine name_world (P := fun W => wpList _ _ _ _ _ W) ?_
      intro wd hwd
      rw [← hwd] at h6
      have H6 := Lib.hid h6
      have HQ2 := Lib.hid (And.intro hq hz)
      have hlen : (((List.replicate (min m (8 - m)) (Value.int IntKind.u8 255)).length : Nat) : Int) = ((min m (8 - m) : Nat) : Int) := by simp
      have hmn : min m (8 - m) ≤ 8 - m ∧ 1 ≤ min m (8 - m) := by omega
      rw [hlen]
      clear hlen hwd h6 hq hz H4 e1 e2 hmin hn
      generalize min m (8 - m) = mm at *
      go_wp2
      go_roundw
      case rel => exact ⟨m + mm, cu2, by omega, by omega, by go_num, by rw [HQ2.out.2]; exact hz8, by rw [HQ2.out.2]; exact HQ.out.1, HQ2.out.1, H6.out⟩
      case measure => simp [intOf]; omega
    · obtain rfl : m = 8 := by omega
      go_wp2
      go_ret
      refine ⟨_, _, rfl, SL.head H3.out (rowT_pts rfl (Nat.le_refl _) (by decide) (by omega) (Or.inl rfl) ?_)⟩
      refine List.ext_getElem? fun j => ?_
      rw [List.getElem?_take, Array.getElem?_toList]
      by_cases h : j < 8
      · rw [if_pos (by omega), HQ.out.2 j h]
        have : j = 0 ∨ j = 1 ∨ j = 2 ∨ j = 3 ∨ j = 4 ∨ j = 5 ∨ j = 6 ∨ j = 7 := by omega
        rcases this with rfl | rfl | rfl | rfl | rfl | rfl | rfl | rfl <;> rfl
      · rw [if_neg (by omega), List.getElem?_eq_none (by show 8 ≤ j; omega)]
end
end Go.Proofs.YtmkndbledppniaaGreat
namespace Go.Proofs.YtmkndbledppniaaGreat
open Go.RowKit
def halfL (n : Nat) : List UInt8 := [UInt8.ofNat (n / 256), UInt8.ofNat (n % 256)]
def encR (c h : Nat) (x : Rec) : List UInt8 := halfL c ++ halfL h ++ [UInt8.ofNat x.r.toNat, UInt8.ofNat x.key.length] ++ halfL x.data.length ++ x.key ++ x.data
def encL (c h : Nat) (rs : List Rec) : List UInt8 := rs.flatMap (encR c h)
section
variable {W w : World} {F : List SA}
set_option maxRecDepth 10000 in
theorem half_cells (n : Nat) (h : n ≤ 65535) : Lib.byteCells (halfL n) = [.int .u8 ((n : Int) / 256), .int .u8 ((n : Int) % 256)] := by
  have h1 : ((UInt8.ofNat (n / 256)).toNat : Int) = (n : Int) / 256 := by rw [UInt8.toNat_ofNat']; omega
  have h2 : ((UInt8.ofNat (n % 256)).toNat : Int) = (n : Int) % 256 := by rw [UInt8.toNat_ofNat']; omega
  show [Value.int .u8 ((UInt8.ofNat (n / 256)).toNat : Int), Value.int .u8 ((UInt8.ofNat (n % 256)).toNat : Int)] = _
  rw [h1, h2]
theorem byteCells_app (a b : List UInt8) : Lib.byteCells (a ++ b) = Lib.byteCells a ++ Lib.byteCells b := by simp [Lib.byteCells]
theorem SL.atT {e : TypeId} {size n c : Nat} {A : Option Addr} {xs : List Value} (S : SL W (rowT e size (.slice A n c) n xs :: F) w) : At w w.heap.size A xs := fun hne => by
  obtain ⟨x, l, rfl⟩ := List.exists_cons_of_ne_nil hne
  obtain ⟨b, hA, _, c0⟩ := S.cellT (j := 0) (u := x) rfl
  refine ⟨b, 0, hA, World.block_lt_of_cell? w _ c0, fun j u hu => ?_⟩
  obtain ⟨b2, hA2, _, cj⟩ := S.cellT hu
  rw [hA] at hA2
  injection hA2 with h
  injection h with h
  subst h
  rw [Nat.zero_add]
  exact cj
set_option maxHeartbeats 2000000 in
theorem half_any (v : Value) (l : List UInt8) (m n : Nat) (S : SL W (rowS 5 1 v m (Lib.byteCells l) :: F) w) (hn : n ≤ 65535) (hl : m ≤ 1073741824) :
    Calls Tryz.prog 98 #[v, .int .i64 (n : Int)] w fun e w' => ∃ A c, e = .returned (.slice A (m + 2) c) ∧ SL W (rowS 5 1 (.slice A (m + 2) c) (m + 2) (Lib.byteCells (l ++ halfL n)) :: F) w' := by
  have HS := Lib.hid S
  obtain ⟨A0, c0, rfl, _, _⟩ := own_slice S.own
  clear S
  have hc := half_cells n hn
  go_enter Tryz.func98, Tryz.ntmps98
  have HC := Lib.hid hc
  clear hc
  go_wp2_with (at_builtin; refine wpList_pushS rfl _ _ _ rfl bElem w [.int .u8 ((n : Int) / 256), .int .u8 ((n : Int) % 256)] 2 rfl rfl (by simp [Value.oneCell']) _ m _ rfl rfl HS.out (by unfold maxLen; omega) (by omega) ?_
               intro A6 c6 w6 S6
               have H6 := Lib.hid S6
               clear S6)
  go_ret
  refine ⟨_, _, rfl, ?_⟩
  rw [byteCells_app, HC.out]
  exact H6.out
end
end Go.Proofs.YtmkndbledppniaaGreat
