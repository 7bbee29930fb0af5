/- Passing a block: slices.Reverse, passed. -/
import Derived.Test.YtbbokikjpabfkaaUnit
namespace Go.Proofs.Ytbbokikjpabfkaa
open Go.RowKit

/-- The first and the last k of a list are each other's mirror. -/
def Mir (xs ys : List Value) (k : Nat) : Prop := ys.length = xs.length ∧ ∀ m, m < xs.length → ys[m]? = if m < k ∨ xs.length ≤ m + k then xs[xs.length - 1 - m]? else xs[m]?
theorem Mir.zero (xs : List Value) : Mir xs xs 0 := ⟨rfl, fun m h => by rw [if_neg (by omega)]⟩
theorem Mir.end_ {xs ys : List Value} {k : Nat} (h : Mir xs ys k) (hk : xs.length ≤ 2 * k + 1) : ys = xs.reverse := by
  refine List.ext_getElem? fun m => ?_
  by_cases hm : m < xs.length
  · rw [h.2 m hm, List.getElem?_reverse hm]
    split
    · rfl
    · congr 1; omega
  · rw [List.getElem?_eq_none (by have := h.1; omega), List.getElem?_eq_none (by simp; omega)]
theorem Mir.next {xs ys : List Value} {k : Nat} {x y : Value} (h : Mir xs ys k) (hk : 2 * k + 1 < xs.length) (hx : ys[xs.length - 1 - k]? = some x) (hy : ys[k]? = some y) : Mir xs ((ys.set k x).set (xs.length - 1 - k) y) (k + 1) := by
  refine ⟨by simp [h.1], fun m hm => ?_⟩
  have hl := h.1
  rw [h.2 _ (by omega), if_neg (by omega)] at hx hy
  rw [List.getElem?_set, List.getElem?_set]
  by_cases h1 : xs.length - 1 - k = m
  · rw [if_pos h1, if_pos (by simp; omega), if_pos (by omega), ← hy]
    congr 1; omega
  · rw [if_neg h1]
    by_cases h2 : k = m
    · rw [if_pos h2, if_pos (by omega), if_pos (by omega), ← hx]
      congr 1; omega
    · rw [if_neg h2, h.2 m hm]
      by_cases h3 : m < k ∨ xs.length ≤ m + k
      · rw [if_pos h3, if_pos (by omega)]
      · rw [if_neg h3, if_neg (by omega)]
theorem Mir.mem {xs ys : List Value} {k m : Nat} {x : Value} (h : Mir xs ys k) (hx : ys[m]? = some x) : x ∈ xs := by
  have hm : m < xs.length := by rw [← h.1]; rw [List.getElem?_eq_some_iff] at hx; exact hx.1
  rw [h.2 m hm] at hx
  split at hx <;> exact List.mem_of_getElem? hx
section
variable {W w w' : World} {F : List SA}
theorem rev_cel (g n c : Nat) (xs tl : List Value) (S : SL W (cel g (xs ++ tl).toArray 5 :: F) w) (hn : xs.length = n) (hu : ∀ u ∈ xs, ∃ z : Int, u = .int .u8 z) (hm : n ≤ maxLen) :
    Calls Try.prog 57 #[.slice (some ⟨g, 0, none⟩) n c] w fun e w' => e = .returned (.tuple #[]) ∧ SL W (cel g (xs.reverse ++ tl).toArray 5 :: F) w' := by
  have HS := Lib.hid S
  have HN := Lib.hid (And.intro hn hu)
  have hm' : n ≤ 9223372036854775807 := by unfold maxLen at hm; omega
  clear S hn hu
  go_enter Try.func57, Try.ntmps57
  go_wp2
  go_loopw [2, 3] (fun i j wr => ∃ (k : Nat) (ys : List Value), 2 * k ≤ n + 1 ∧ i = .int .i64 k ∧ j = .int .i64 ((n : Int) - 1 - k) ∧ Mir xs ys k ∧ SL W (cel g (ys ++ tl).toArray 5 :: F) wr) (fun i _ _ => n - (intOf i).toNat)
  case atStart =>
    refine ⟨0, xs, by omega, rfl, by go_num, Mir.zero xs, HS.out⟩
  case round =>
    obtain ⟨k, ys, hk, rfl, rfl, hM, S1⟩ := hrel
    have H1 := Lib.hid S1
    have HM := Lib.hid hM
    clear S1 HS hM
    by_cases hlt : 2 * k + 1 < n
    · have hy1 : ys.length = n := by rw [HM.out.1, HN.out.1]
      obtain ⟨x, hx⟩ : ∃ x, ys[n - 1 - k]? = some x := ⟨_, List.getElem?_eq_getElem (by omega)⟩
      obtain ⟨y, hy⟩ : ∃ y, ys[k]? = some y := ⟨_, List.getElem?_eq_getElem (by omega)⟩
      obtain ⟨zx, rfl⟩ := HN.out.2 x (HM.out.mem hx)
      obtain ⟨zy, rfl⟩ := HN.out.2 y (HM.out.mem hy)
      obtain ⟨m, hm1⟩ : ∃ m, n - 1 - k = m := ⟨_, rfl⟩
      have HX := Lib.hid (And.intro hx hy)
      rw [hm1] at hx
      have e0 : (n : Int) - 1 - (k : Int) = (m : Int) := by omega
      have hm2 : m < n := by omega
      have hm3 : k < m := by omega
      rw [e0]
      obtain ⟨L, K, z⟩ := H1.out.look
      have q1 : wr.cell? ⟨g, k, none⟩ = some (.int .u8 zy) := by rw [L]; simpa using (List.getElem?_append_left (by omega)).trans hy
      have q2 : wr.cell? ⟨g, m, none⟩ = some (.int .u8 zx) := by rw [L]; simpa using (List.getElem?_append_left (by omega)).trans hx
      have k1 : wr.frozen? ⟨g, k, none⟩ = false := K _
      have k2 : wr.frozen? ⟨g, m, none⟩ = false := K _
      clear L K hx hy
      go_wp2_with fail
      go_big_region
      go_wp2
      go_roundw
      case rel =>
        refine ⟨k + 1, (ys.set k (.int .u8 zx)).set m (.int .u8 zy), by omega, by go_num, by go_num, ?_, ?_⟩
        · have h := HM.out.next (k := k) (by rw [HN.out.1]; omega) (by rw [HN.out.1]; exact HX.out.1) HX.out.2
          rw [HN.out.1, hm1] at h
          exact h
        · have h := (H1.out.drew.set (off := k) (v := .int .u8 zx) rfl).set (off := m) (v := .int .u8 zy) rfl
          rw [List.setIfInBounds_toArray, List.setIfInBounds_toArray, List.set_append_left _ _ (by omega), List.set_append_left _ _ (by simp; omega)] at h
          exact h
      case measure => simp [intOf]; omega
    · have e0 : ¬ ((k : Int) < (n : Int) - 1 - (k : Int)) := by omega
      go_wp2
      refine bodyPost_end (v := .tuple #[]) (by simp [results, Try.results57, go_sem]) rfl ⟨rfl, ?_⟩
      rw [← HM.out.end_ (by rw [HN.out.1]; omega)]
      exact H1.out
theorem rev_zero (A : Option Addr) (c : Nat) (w : World) :
    Calls Try.prog 57 #[.slice A 0 c] w fun e w' => e = .returned (.tuple #[]) ∧ w' = w := by
  go_enter Try.func57, Try.ntmps57
  go_wp2
  go_loopw [2, 3] (fun i j wr => i = .int .i64 0 ∧ j = .int .i64 (-1) ∧ wr = w) (fun i _ _ => 0)
  case atStart => exact ⟨rfl, rfl, rfl⟩
  case round =>
    obtain ⟨rfl, rfl, rfl⟩ := hrel
    go_wp2
    exact bodyPost_end (v := .tuple #[]) (by simp [results, Try.results57, go_sem]) rfl ⟨rfl, rfl⟩
theorem rev_any (A : Option Addr) (c : Nat) (l : List UInt8) (S : SL W (rowS 5 1 (.slice A l.length c) l.length (Lib.byteCells l) :: F) w) :
    Calls Try.prog 57 #[.slice A l.length c] w fun e w' => e = .returned (.tuple #[]) ∧ SL W (rowS 5 1 (.slice A l.length c) l.length (Lib.byteCells l.reverse) :: F) w' := by
  by_cases h0 : l.length = 0
  · obtain rfl := List.eq_nil_of_length_eq_zero h0
    refine (rev_zero A c w).mono ?_
    rintro e w2 ⟨rfl, rfl⟩
    exact ⟨rfl, S⟩
  · obtain ⟨g, cap, cur, hv, h1, h2, h3, h4, S1⟩ := S.rowCel (by omega)
    injection hv with hA _ hc
    subst hA; subst hc
    rw [Nat.mul_one] at h3 h4
    have e1 : cur = (Lib.byteCells l ++ cur.toList.drop l.length).toArray := by
      apply Array.toList_inj.1
      conv => lhs; rw [← List.take_append_drop l.length cur.toList, h4]
    rw [e1] at S1
    refine (rev_cel g l.length c (Lib.byteCells l) _ S1 (byteCells_len l) ?_ (by omega)).mono ?_
    · intro u hu
      obtain ⟨b, _, rfl⟩ := List.mem_map.1 hu
      exact ⟨_, rfl⟩
    · rintro e w2 ⟨rfl, S2⟩
      refine ⟨rfl, ?_⟩
      have e2 : (Lib.byteCells l).reverse = Lib.byteCells l.reverse := by simp [Lib.byteCells]
      rw [e2] at S2
      refine S2.head (rowS_pts h1 h2 ?_ ?_)
      · simp [byteCells_len]; rw [h3]; omega
      · simp only [Nat.mul_one]; exact List.take_left' (by simp [byteCells_len])
set_option maxHeartbeats 2000000 in
theorem passed_any (A : Option Addr) (c : Nat) (b : Blk) (rd rv : Bool) (S : SL W F w) (hr : Rd W F A (Lib.byteCells b.data)) (hl : b.data.length ≤ 1073741824) :
    Calls Try.prog 52 #[.agg #[.bool b.mark, .slice A b.data.length c, .bool b.bad], .bool rd, .bool rv] w fun e w' => RetS W F (tpPassed b rd rv) e w' := by
  have HR := Lib.hid hr
  have HD := Lib.hid (And.intro mark_any (check_any 8))
  have HE := Lib.hid done_any
  obtain ⟨l, mk, bd⟩ := b
  dsimp only at *
  have H1 : Hid (SL W (cel (w.heap.size + 1) #[.slice none 0 0, .int .i64 0, .int .i64 0] 31 :: F) ((w.alloc (.cells #[.bool mk, .slice A l.length c, .bool bd] 25)).alloc (.cells #[.slice none 0 0, .int .i64 0, .int .i64 0] 31))) :=
    Lib.hid (by
      have h := (S.allocC #[.bool mk, .slice A l.length c, .bool bd] 25).drop.allocC #[.slice none 0 0, .int .i64 0, .int .i64 0] 31
      rw [World.size_alloc] at h
      exact h)
  clear S hr
  have fin : ∀ (w2 : World) (v : Value) (x y : Int), Hid (SL W (cel (w.heap.size + 1) #[.slice none 0 0, .int .i64 0, .int .i64 0] 31 :: F) w2) →
      Hid (SL W (cel (w.heap.size + 1) #[v, .int .i64 x, .int .i64 y] 31 :: F) (((w2.setCell ⟨w.heap.size + 1, 0, none⟩ v).setCell ⟨w.heap.size + 1, 1, none⟩ (.int .i64 x)).setCell ⟨w.heap.size + 1, 2, none⟩ (.int .i64 y))) := fun w2 v x y h => Lib.hid h.out.set3
  cases mk with
  | true =>
    go_enter Try.func52, Try.ntmps52
    go_wp2_with (refine (HD.out.1 _).mono ?_; rintro e w2 ⟨rfl, b2⟩; have H2 := Lib.hid (H1.out.grow b2); clear b2; obtain ⟨L2, K2, z2⟩ := H2.out.look)
    have H3 := fin _ (.slice none 0 0) 13 0 H2
    obtain ⟨L3, K3, z3⟩ := H3.out.look
    refine bodyPost_ret (v := .agg #[.slice none 0 0, .int .i64 13, .int .i64 0]) (by simp [results, Try.results52, go_sem, L2]) rfl ?_
    exact RetS.of (st := 13) (sn := 0) H3.out.drop
  | false =>
    cases rd with
    | false =>
      go_enter Try.func52, Try.ntmps52
      go_wp2_with (refine (HE.out none 0 0 _).mono ?_; rintro e w2 ⟨rfl, b2⟩; have H2 := Lib.hid (H1.out.grow b2); clear b2; obtain ⟨L2, K2, z2⟩ := H2.out.look)
      have H3 := fin _ (.slice none 0 0) 12 0 H2
      obtain ⟨L3, K3, z3⟩ := H3.out.look
      refine bodyPost_ret (v := .agg #[.slice none 0 0, .int .i64 12, .int .i64 0]) (by simp [results, Try.results52, go_sem, L2]) rfl ?_
      exact RetS.of (st := 12) (sn := 0) H3.out.drop
    | true =>
      cases bd with
      | true =>
        go_enter Try.func52, Try.ntmps52
        go_wp2_with (refine (HD.out.2 _).mono ?_; rintro e w2 ⟨rfl, b2⟩; have H2 := Lib.hid (H1.out.grow b2); clear b2; obtain ⟨L2, K2, z2⟩ := H2.out.look)
        have H3 := fin _ (.slice none 0 0) 14 8 H2
        obtain ⟨L3, K3, z3⟩ := H3.out.look
        refine bodyPost_ret (v := .agg #[.slice none 0 0, .int .i64 14, .int .i64 8]) (by simp [results, Try.results52, go_sem, L2]) rfl ?_
        exact RetS.of (st := 14) (sn := 8) H3.out.drop
      | false =>
        cases rv with
        | true =>
          go_enter Try.func52, Try.ntmps52
          go_wp2_with (first
            | (refine (sclone_any A l c H1.out HR.out.cons hl).mono ?_; rintro e w2 ⟨v2, rfl, S2⟩; obtain ⟨A2, c2, rfl, _, _⟩ := own_slice S2.own; have H2 := Lib.hid S2; clear S2)
            | (refine (rev_any A2 c2 l H2.out).mono ?_; rintro e w3 ⟨rfl, S3⟩; have H3 := Lib.hid S3; clear S3)
            | (refine (HE.out A2 l.length c2 _).mono ?_; rintro e w4 ⟨rfl, b4⟩; have H4 := Lib.hid (H3.out.grow b4).s1; clear b4; obtain ⟨L2, K2, z2⟩ := H4.out.look))
          have H5 := H4.out.set3 (u0 := .slice A2 l.length c2) (u1 := .int .i64 12) (u2 := .int .i64 0)
          refine bodyPost_ret (v := .agg #[.slice A2 l.length c2, .int .i64 12, .int .i64 0]) (by simp [results, Try.results52, go_sem, L2]) rfl ?_
          exact ⟨A2, c2, by simp [tpPassed], by simpa [tpPassed] using H5.drop⟩
        | false =>
          go_enter Try.func52, Try.ntmps52
          go_wp2_with (first
            | (refine (sclone_any A l c H1.out HR.out.cons hl).mono ?_; rintro e w2 ⟨v2, rfl, S2⟩; obtain ⟨A2, c2, rfl, _, _⟩ := own_slice S2.own; have H2 := Lib.hid S2; clear S2)
            | (refine (HE.out A2 l.length c2 _).mono ?_; rintro e w4 ⟨rfl, b4⟩; have H4 := Lib.hid (H2.out.grow b4).s1; clear b4; obtain ⟨L2, K2, z2⟩ := H4.out.look))
          have H5 := H4.out.set3 (u0 := .slice A2 l.length c2) (u1 := .int .i64 12) (u2 := .int .i64 0)
          refine bodyPost_ret (v := .agg #[.slice A2 l.length c2, .int .i64 12, .int .i64 0]) (by simp [results, Try.results52, go_sem, L2]) rfl ?_
          exact ⟨A2, c2, by simp [tpPassed], by simpa [tpPassed] using H5.drop⟩
end
end Go.Proofs.Ytbbokikjpabfkaa
