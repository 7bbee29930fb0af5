/- New. -/
import Derived.Test.YtlbbmfmkhmmikaaGreatDDo
namespace Go.Proofs.YtlbbmfmkhmmikaaGreat.D
open Go.RowKit
/-- A byte of a serial. -/
def serB (b : UInt8) : Prop := (65 ≤ b.toNat ∧ b.toNat ≤ 90) ∨ (48 ≤ b.toNat ∧ b.toNat ≤ 57)
instance (b : UInt8) : Decidable (serB b) := inferInstanceAs (Decidable (_ ∨ _))
def serAll (s : ByteArray) : Prop := ∀ k (h : k < s.size), serB (s[k]'h)
instance (s : ByteArray) : Decidable (serAll s) := inferInstanceAs (Decidable (∀ k (h : k < s.size), serB (s[k]'h)))
def newOk (s : ByteArray) (c h : Int) : Bool := decide (serAll s) && (decide (1 ≤ s.size) && (decide (s.size ≤ 6) && (decide (1 ≤ c) && (decide (c ≤ 64) && (decide (1 ≤ h) && decide (h ≤ 8))))))
def freshDK (s : ByteArray) (c h : Nat) : DK := ⟨s, c, h, 0, 0, 0, false, 0, List.replicate (c * h) [], none⟩
theorem fresh_ok {s : ByteArray} {c h : Nat} (hc : 1 ≤ c ∧ c ≤ 64) (hh : 1 ≤ h ∧ h ≤ 8) : (freshDK s c h).ok :=
  { c1 := hc, h1 := hh, n1 := (by simp [freshDK]), cy := (by show 0 < c; omega), hd := (by show 0 < h; omega), val := fun t ht => (by
      have e := (List.mem_replicate.1 ht).2
      rw [e]; exact valid_nil), nx := (by show 0 ≤ 4096; omega), fd := fun e => (by cases e), sn := (by show 0 ≤ 255; omega), la := fun _ _ _ e => (by cases e) }
def NewR (W : World) (F : List SA) (s : ByteArray) (c h : Int) (e : Ending) (w' : World) : Prop :=
  if newOk s c h = true then ∃ x, e = .returned (.tuple #[.pointer (some ⟨x, 0, none⟩), .int .i64 0]) ∧ SL W (diskS x (freshDK s c.toNat h.toNat) :: F) w' else e = .returned (.tuple #[.pointer none, .int .i64 1]) ∧ SL W F w'
theorem trkElem : Elem Tryz.prog 131 72 (.slice none 0 0) 1 24 := ⟨Tryz.underlying131, by kernel_rfl, rfl, by decide⟩
section
variable {W w : World} {F : List SA}
theorem star_nils (S : SL W F w) : ∀ n : Nat, SL W (star (List.zipWith recsS (List.replicate n (.slice none 0 0)) (List.replicate n [])) :: F) w
  | 0 => by simpa using S.empty
  | n + 1 => by
    have h := (recsS_close (ps := []) ((star_nils S n).empty.nil _ _)).snoc
    rw [List.zipWith_replicate, Nat.min_self] at h ⊢
    rw [List.replicate_succ']
    exact h
theorem nil_made (n : Nat) : (madeCells (Value.slice none 0 0).cells (n * 1)).toList = List.replicate n (Value.slice none 0 0) := by
  rw [Nat.mul_one]
  apply List.ext_getElem?
  intro j
  by_cases hj : j < n
  · rw [Array.getElem?_toList, madeCells, Array.getElem?_map, Array.getElem?_range, if_pos hj, List.getElem?_replicate, if_pos hj]
    show some ((#[Value.slice none 0 0])[j % 1]!) = _
    rw [show j % 1 = 0 by omega]; rfl
  · rw [List.getElem?_eq_none (by rw [Array.length_toList, size_madeCells]; omega), List.getElem?_eq_none (by simp; omega)]
theorem NewR.bad {s : ByteArray} {c h : Int} (e : newOk s c h = false) (S : SL W F w) : NewR W F s c h (.returned (.tuple #[.pointer none, .int .i64 1])) w := by
  unfold NewR
  rw [if_neg (by rw [e]; simp)]
  exact ⟨rfl, S⟩
set_option maxRecDepth 100000 in
set_option maxHeartbeats 16000000 in
theorem new_any (s : ByteArray) (hz : s.size ≤ 140737488355328) (c h : Int) (S : SL W F w) : Calls Tryz.prog 71 #[.string s, .int .i64 c, .int .i64 h] w (NewR W F s c h) := by
  have HS := Lib.hid S
  clear S
  go_enter Tryz.func71, Tryz.ntmps71
  by_cases hb : 1 ≤ s.size ∧ s.size ≤ 6 ∧ 1 ≤ c ∧ c ≤ 64 ∧ 1 ≤ h ∧ h ≤ 8
  · have HB := Lib.hid hb
    obtain ⟨b1, b2, b3, b4, b5, b6⟩ := hb
    have t1 : ((s.size : Int) < 1) = False := eq_false (by omega)
    have t2 : ((6 : Int) < (s.size : Int)) = False := eq_false (by omega)
    have t3 : (c < 1) = False := eq_false (by omega)
    have t4 : (64 < c) = False := eq_false (by omega)
    have t5 : (h < 1) = False := eq_false (by omega)
    have t6 : (8 < h) = False := eq_false (by omega)
    go_wp2
    go_loopw [36] (fun i wr => ∃ k : Nat, k ≤ s.size ∧ i = .int .i64 k ∧ (∀ j (h : j < s.size), j < k → serB (s[j]'h)) ∧ wr = w) (fun i _ => s.size - (intOf i).toNat)
    case atStart => exact ⟨0, Nat.zero_le _, rfl, (fun j h hj => by omega), rfl⟩
    case round =>
      obtain ⟨k, hk, rfl, hall, rfl⟩ := hrel
      have HA := Lib.hid hall
      clear hall
      by_cases hlt : k < s.size
      · have HLT := Lib.hid hlt
        go_upto_region 7 with fail
        by_cases hin : serB (s[k]'hlt)
        · have HI := Lib.hid hin
          unfold serB at hin
          generalize (s[k]'hlt).toNat = z at hin ⊢
          by_cases h65 : 65 ≤ z
          · have q1 : ((z : Int) < 65) = False := eq_false (by omega)
            have q2 : ((90 : Int) < (z : Int)) = False := eq_false (by omega)
            clear hin h65
            go_wp2
            go_roundw
            case rel =>
              refine ⟨k + 1, by omega, by go_num, fun j h hj => ?_, trivial⟩
              by_cases e : j = k
              · subst e; exact HI.out
              · exact HA.out j h (by omega)
            case measure => simp [intOf]; omega
          · have q1 : ((z : Int) < 65) = True := eq_true (by omega)
            have q3 : ((z : Int) < 48) = False := eq_false (by omega)
            have q4 : ((57 : Int) < (z : Int)) = False := eq_false (by omega)
            clear hin h65
            go_wp2
            go_roundw
            case rel =>
              refine ⟨k + 1, by omega, by go_num, fun j h hj => ?_, trivial⟩
              by_cases e : j = k
              · subst e; exact HI.out
              · exact HA.out j h (by omega)
            case measure => simp [intOf]; omega
        · have HN := Lib.hid (NewR.bad (c := c) (h := h) (s := s) (by
            unfold newOk
            rw [decide_eq_false (fun hh => hin (hh k hlt))]; rfl) HS.out)
          unfold serB at hin
          generalize (s[k]'hlt).toNat = z at hin ⊢
          by_cases h65 : z < 65
          · have q1 : ((z : Int) < 65) = True := eq_true (by omega)
            by_cases h48 : z < 48
            · have q3 : ((z : Int) < 48) = True := eq_true (by omega)
              clear hin h65 h48
              go_wp2
              exact bodyPost_ret (v := .tuple #[.pointer none, .int .i64 1]) (by simp [results, Tryz.results71, go_sem]) rfl HN.out
            · have q3 : ((z : Int) < 48) = False := eq_false (by omega)
              have q4 : ((57 : Int) < (z : Int)) = True := eq_true (by omega)
              clear hin h65 h48
              go_wp2
              exact bodyPost_ret (v := .tuple #[.pointer none, .int .i64 1]) (by simp [results, Tryz.results71, go_sem]) rfl HN.out
          · have q1 : ((z : Int) < 65) = False := eq_false (by omega)
            have q2 : ((90 : Int) < (z : Int)) = True := eq_true (by omega)
            have q3 : ((z : Int) < 48) = False := eq_false (by omega)
            have q4 : ((57 : Int) < (z : Int)) = True := eq_true (by omega)
            clear hin h65
            go_wp2
            exact bodyPost_ret (v := .tuple #[.pointer none, .int .i64 1]) (by simp [results, Tryz.results71, go_sem]) rfl HN.out
      · obtain rfl : k = s.size := by omega
        have HOK := Lib.hid (show newOk s c h = true by
          unfold newOk
          have hh : serAll s := fun j hj => HA.out j hj (by omega)
          simp only [decide_eq_true hh, decide_eq_true b1, decide_eq_true b2, decide_eq_true b3, decide_eq_true b4, decide_eq_true b5, decide_eq_true b6, Bool.and_self])
        obtain ⟨cn, hcn⟩ : ∃ cn : Nat, c = (cn : Int) := ⟨c.toNat, by omega⟩
        obtain ⟨hn, hhn⟩ : ∃ hn : Nat, h = (hn : Int) := ⟨h.toNat, by omega⟩
        subst hcn; subst hhn
        have b3' : 1 ≤ cn ∧ cn ≤ 64 := by omega
        have b5' : 1 ≤ hn ∧ hn ≤ 8 := by omega
        have hm1 : cn * hn ≤ 64 * 8 := Nat.mul_le_mul b3'.2 b5'.2
        have hm0 : 1 * 1 ≤ cn * hn := Nat.mul_le_mul b3'.1 b5'.1
        have hm : IntKind.i64.wrap ((cn : Int) * (hn : Int)) = ((cn * hn : Nat) : Int) := by rw [← Int.natCast_mul]; exact IntWalk.i64_in _ (by omega)
        have hm2 : wrap64 ((cn : Int) * (hn : Int)) = ((cn * hn : Nat) : Int) := by
          rw [← Int.natCast_mul]
          generalize cn * hn = nn at hm1 ⊢
          unfold wrap64; omega
        obtain ⟨n, hnn⟩ : ∃ n, cn * hn = n := ⟨_, rfl⟩
        have HNN := Lib.hid hnn
        rw [hnn] at hm hm2 hm0 hm1
        clear HA HB hnn t3 t4 t5 t6 b3 b4 b5 b6 hlt
        go_wp2_with (at_make; refine wpList_makeS rfl _ _ _ rfl trkElem .i64 .i64 _ _ n rfl rfl rfl rfl (by omega) (by unfold maxLen; omega) HS.out ?_
                     intro g w1 S1
                     rw [nil_made] at S1
                     have H1 := Lib.hid (S1.full (by omega))
                     clear S1)
        refine bodyPost_ret (by simp [results, Tryz.results71, go_sem]; rfl) rfl ?_
        unfold NewR
        rw [if_pos HOK.out]
        refine ⟨_, rfl, ?_⟩
        rw [Int.toNat_natCast, Int.toNat_natCast]
        have hnn := HNN.out
        have S2 := (tracks_close (vs := List.replicate n (.slice none 0 0)) (ts := List.replicate n []) (by simp) (star_nils H1.out n).s1)
        have S3 := (last_null S2).s1.allocC (dkCells (freshDK s cn hn) g none false) 136
        have ed : dkCells (freshDK s cn hn) g none false = #[.string s, .int .i64 (cn : Int), .int .i64 (hn : Int), .slice (some ⟨g, 0, none⟩) n n, .int .i64 0, .int .i64 0, .int .i64 0, .bool false, .bool false, .int .i64 0, .pointer none] := by
          simp [dkCells, freshDK, hnn]
        have S4 : SL W (diskS w1.heap.size (freshDK s cn hn) :: F) (w1.alloc (.cells (dkCells (freshDK s cn hn) g none false) 136)) :=
          disk_close (diskW_close (s := freshDK s cn hn) (by rw [show (freshDK s cn hn).tracks = List.replicate n [] by simp [freshDK, hnn]]; exact S3))
        rw [ed] at S4
        exact S4
  · have HN := Lib.hid (NewR.bad (c := c) (h := h) (s := s) (by
      cases hh : newOk s c h with
      | false => rfl
      | true =>
        unfold newOk at hh
        simp only [Bool.and_eq_true, decide_eq_true_eq] at hh
        exact absurd hh.2 hb) HS.out)
    by_cases c1 : 1 ≤ s.size
    · skip
      by_cases c2 : s.size ≤ 6
      · skip
        by_cases c3 : 1 ≤ c
        · skip
          by_cases c4 : c ≤ 64
          · skip
            by_cases c5 : 1 ≤ h
            · skip
              have t1 : ((s.size : Int) < 1) = False := eq_false (by omega)
              have t2 : ((6 : Int) < (s.size : Int)) = False := eq_false (by omega)
              have t3 : (c < 1) = False := eq_false (by omega)
              have t4 : (64 < c) = False := eq_false (by omega)
              have t5 : (h < 1) = False := eq_false (by omega)
              have t6 : (8 < h) = True := eq_true (by omega)
              go_wp2
              exact bodyPost_ret (v := .tuple #[.pointer none, .int .i64 1]) (by simp [results, Tryz.results71, go_sem]) rfl HN.out
            · skip
              have t1 : ((s.size : Int) < 1) = False := eq_false (by omega)
              have t2 : ((6 : Int) < (s.size : Int)) = False := eq_false (by omega)
              have t3 : (c < 1) = False := eq_false (by omega)
              have t4 : (64 < c) = False := eq_false (by omega)
              have t5 : (h < 1) = True := eq_true (by omega)
              go_wp2
              exact bodyPost_ret (v := .tuple #[.pointer none, .int .i64 1]) (by simp [results, Tryz.results71, go_sem]) rfl HN.out
          · skip
            have t1 : ((s.size : Int) < 1) = False := eq_false (by omega)
            have t2 : ((6 : Int) < (s.size : Int)) = False := eq_false (by omega)
            have t3 : (c < 1) = False := eq_false (by omega)
            have t4 : (64 < c) = True := eq_true (by omega)
            go_wp2
            exact bodyPost_ret (v := .tuple #[.pointer none, .int .i64 1]) (by simp [results, Tryz.results71, go_sem]) rfl HN.out
        · skip
          have t1 : ((s.size : Int) < 1) = False := eq_false (by omega)
          have t2 : ((6 : Int) < (s.size : Int)) = False := eq_false (by omega)
          have t3 : (c < 1) = True := eq_true (by omega)
          go_wp2
          exact bodyPost_ret (v := .tuple #[.pointer none, .int .i64 1]) (by simp [results, Tryz.results71, go_sem]) rfl HN.out
      · skip
        have t1 : ((s.size : Int) < 1) = False := eq_false (by omega)
        have t2 : ((6 : Int) < (s.size : Int)) = True := eq_true (by omega)
        go_wp2
        exact bodyPost_ret (v := .tuple #[.pointer none, .int .i64 1]) (by simp [results, Tryz.results71, go_sem]) rfl HN.out
    · skip
      have t1 : ((s.size : Int) < 1) = True := eq_true (by omega)
      go_wp2
      exact bodyPost_ret (v := .tuple #[.pointer none, .int .i64 1]) (by simp [results, Tryz.results71, go_sem]) rfl HN.out
end
end Go.Proofs.YtlbbmfmkhmmikaaGreat.D
