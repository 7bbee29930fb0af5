/- The document's unit: New. -/
import Derived.Test.YtfhpaehfihnjaaaGreatDQ
import Derived.Test.YtfhpaehfihnjaaaGreatDNu
set_option maxRecDepth 100000
namespace Go.Proofs.YtfhpaehfihnjaaaGreat.D
open Go.RowKit
def QNewR (W : World) (F : List SA) (s : ByteArray) (c h : Int) (e : Ending) (w' : World) : Prop :=
  if newOk s c h = true then ∃ x, e = .returned (.tuple #[.pointer (some ⟨x, 0, none⟩), .int .i64 0]) ∧ SL W (qdiskS x (freshDK s c.toNat h.toNat) :: F) w' else e = .returned (.tuple #[.pointer none, .int .i64 1]) ∧ SL W F w'
def serQ (s : ByteArray) : Bool := decide (serAll s) && (decide (1 ≤ s.size) && decide (s.size ≤ 6))
section
variable {W w : World} {F : List SA}
theorem star_nilsQ (S : SL W F w) : ∀ n : Nat, SL W (star (List.zipWith trackQ (List.replicate n (.slice none 0 0)) (List.replicate n [])) :: F) w
  | 0 => by simpa using S.empty
  | n + 1 => by
    have h := (trackQ_nil (star_nilsQ S n)).snoc
    rw [List.zipWith_replicate, Nat.min_self] at h ⊢
    rw [List.replicate_succ']
    exact h
set_option maxHeartbeats 8000000 in
theorem qserial_any (s : ByteArray) (hz : s.size ≤ 140737488355328) (w : World) : Calls Tryz.prog 95 #[.string s] w fun e w' => e = .returned (.bool (serQ s)) ∧ w' = w := by
  go_enter Tryz.func95, Tryz.ntmps95
  go_wp2
  go_loopw [3] (fun i wr => ∃ k : Nat, k ≤ s.size ∧ i = .int .i64 k ∧ (∀ j (h : j < s.size), j < k → serB (s[j]'h)) ∧ wr = w) (fun i _ => s.size - (intOf i).toNat)
  case atStart => exact ⟨0, Nat.zero_le _, rfl, (fun j h hj => by omega), rfl⟩
  case round =>
    obtain ⟨k, hk, rfl, hall, rfl⟩ := hrel
    have HA := Lib.hid hall
    clear hall
    by_cases hlt : k < s.size
    · have HLT := Lib.hid hlt
      have hki : (k : Int) < (s.size : Int) := by omega
      go_upto_region 4 with fail
      by_cases hin : serB (s[k]'hlt)
      · have HI := Lib.hid hin
        unfold serB at hin
        obtain ⟨z, hz2⟩ : ∃ z, (s[k]'hlt).toNat = z := ⟨_, rfl⟩; rw [hz2] at hin
        by_cases h65 : 65 ≤ z
        · by_cases h90 : z ≤ 90
          · have q1 : ((z : Int) < 65) = False := eq_false (by omega)
            have q2 : ((90 : Int) < (z : Int)) = False := eq_false (by omega)
            clear hin h65 h90
            go_wp2
            go_roundw
            case rel =>
              refine ⟨k + 1, by omega, by go_num, fun j h hj => ?_, trivial⟩
              by_cases e : j = k
              · subst e; exact HI.out
              · exact HA.out j h (by omega)
            case measure => simp [intOf]; omega
          · exact absurd hin (by omega)
        · have q1 : ((z : Int) < 65) = True := eq_true (by omega)
          have q3 : ((z : Int) < 48) = False := eq_false (by omega)
          have q4 : ((57 : Int) < (z : Int)) = False := eq_false (by omega)
          clear hin h65
          go_wp2
          go_roundw
          case rel =>
            refine ⟨k + 1, by omega, by go_num, fun j h hj => ?_, trivial⟩
            by_cases e : j = k
            · subst e; exact HI.out
            · exact HA.out j h (by omega)
          case measure => simp [intOf]; omega
      · have HN := Lib.hid (show serQ s = false by unfold serQ; rw [decide_eq_false (fun hh => hin (hh k hlt))]; rfl)
        unfold serB at hin
        obtain ⟨z, hz2⟩ : ∃ z, (s[k]'hlt).toNat = z := ⟨_, rfl⟩; rw [hz2] at hin
        by_cases h65 : z < 65
        · have q1 : ((z : Int) < 65) = True := eq_true (by omega)
          by_cases h48 : z < 48
          · have q3 : ((z : Int) < 48) = True := eq_true (by omega)
            clear hin h65 h48
            go_wp2
            go_ret
            exact ⟨by rw [HN.out]; rfl, rfl⟩
          · have q3 : ((z : Int) < 48) = False := eq_false (by omega)
            have q4 : ((57 : Int) < (z : Int)) = True := eq_true (by omega)
            clear hin h65 h48
            go_wp2
            go_ret
            exact ⟨by rw [HN.out]; rfl, rfl⟩
        · have q1 : ((z : Int) < 65) = False := eq_false (by omega)
          have q2 : ((90 : Int) < (z : Int)) = True := eq_true (by omega)
          have q3 : ((z : Int) < 48) = False := eq_false (by omega)
          have q4 : ((57 : Int) < (z : Int)) = True := eq_true (by omega)
          clear hin h65
          go_wp2
          go_ret
          exact ⟨by rw [HN.out]; rfl, rfl⟩
    · obtain rfl : k = s.size := by omega
      have HN := Lib.hid (show serQ s = (decide (1 ≤ s.size) && decide (s.size ≤ 6)) by
        unfold serQ
        have hh : serAll s := fun j hj => HA.out j hj (by omega)
        rw [decide_eq_true hh]; rfl)
      by_cases h1 : 1 ≤ s.size
      · have t1 : ((1 : Int) ≤ (s.size : Int)) = True := eq_true (by omega)
        by_cases h6 : s.size ≤ 6
        · have t6 : ((s.size : Int) ≤ 6) = True := eq_true (by omega)
          have HR := Lib.hid (show serQ s = true by rw [HN.out, decide_eq_true h1, decide_eq_true h6]; rfl)
          clear h1 h6
          go_wp2
          go_ret
          exact ⟨by rw [HR.out]; rfl, rfl⟩
        · have t6 : ((s.size : Int) ≤ 6) = False := eq_false (by omega)
          have HR := Lib.hid (show serQ s = false by rw [HN.out, decide_eq_true h1, decide_eq_false h6]; rfl)
          clear h1 h6
          go_wp2
          go_ret
          exact ⟨by rw [HR.out]; rfl, rfl⟩
      · have t1 : ((1 : Int) ≤ (s.size : Int)) = False := eq_false (by omega)
        have HR := Lib.hid (show serQ s = false by rw [HN.out, decide_eq_false h1]; rfl)
        clear h1
        go_wp2
        go_ret
        exact ⟨by rw [HR.out]; rfl, rfl⟩
set_option maxHeartbeats 8000000 in
theorem qnew_any (s : ByteArray) (hz : s.size ≤ 140737488355328) (c h : Int) (S : SL W F w) : Calls Tryz.prog 65 #[.string s, .int .i64 c, .int .i64 h] w (QNewR W F s c h) := by
  have HS := Lib.hid S
  clear S
  have HSR := Lib.hid (qserial_any s hz w)
  have hq : newOk s c h = (serQ s && (decide (1 ≤ c) && (decide (c ≤ 64) && (decide (1 ≤ h) && decide (h ≤ 8))))) := by
    unfold newOk serQ
    cases decide (serAll s) <;> cases decide (1 ≤ s.size) <;> cases decide (s.size ≤ 6) <;> rfl
  have hbad : newOk s c h = false → QNewR W F s c h (.returned (.tuple #[.pointer none, .int .i64 1])) w := fun e => by
    unfold QNewR
    rw [if_neg (by rw [e]; simp)]
    exact ⟨rfl, HS.out⟩
  have HBAD := Lib.hid hbad
  have HQ := Lib.hid hq
  clear hbad hq
  go_enter Tryz.func65, Tryz.ntmps65
  go_wp2_with fail
  refine HSR.out.mono ?_
  rintro e w2 ⟨rfl, rfl⟩
  cases hs : serQ s with
  | false =>
    have HN := Lib.hid (HBAD.out (by rw [HQ.out, hs]; rfl))
    clear hs
    go_wp2
    exact bodyPost_ret (v := .tuple #[.pointer none, .int .i64 1]) (by simp [results, Tryz.results65, go_sem]) rfl HN.out
  | true =>
    have HSS := Lib.hid hs
    clear hs
    by_cases e0 : c < 1
    · have t0 : (c < 1) = True := eq_true e0
      have HN := Lib.hid (HBAD.out (by rw [HQ.out, HSS.out, decide_eq_false (p := 1 ≤ c) (by omega)]; simp))
      clear e0
      go_wp2
      exact bodyPost_ret (v := .tuple #[.pointer none, .int .i64 1]) (by simp [results, Tryz.results65, go_sem]) rfl HN.out
    have t0 : (c < 1) = False := eq_false e0
    by_cases e1 : 64 < c
    · have t1 : (64 < c) = True := eq_true e1
      have HN := Lib.hid (HBAD.out (by rw [HQ.out, HSS.out, decide_eq_false (p := c ≤ 64) (by omega)]; simp))
      clear e1
      go_wp2
      exact bodyPost_ret (v := .tuple #[.pointer none, .int .i64 1]) (by simp [results, Tryz.results65, go_sem]) rfl HN.out
    have t1 : (64 < c) = False := eq_false e1
    by_cases e2 : h < 1
    · have t2 : (h < 1) = True := eq_true e2
      have HN := Lib.hid (HBAD.out (by rw [HQ.out, HSS.out, decide_eq_false (p := 1 ≤ h) (by omega)]; simp))
      clear e2
      go_wp2
      exact bodyPost_ret (v := .tuple #[.pointer none, .int .i64 1]) (by simp [results, Tryz.results65, go_sem]) rfl HN.out
    have t2 : (h < 1) = False := eq_false e2
    by_cases e3 : 8 < h
    · have t3 : (8 < h) = True := eq_true e3
      have HN := Lib.hid (HBAD.out (by rw [HQ.out, HSS.out, decide_eq_false (p := h ≤ 8) (by omega)]; simp))
      clear e3
      go_wp2
      exact bodyPost_ret (v := .tuple #[.pointer none, .int .i64 1]) (by simp [results, Tryz.results65, go_sem]) rfl HN.out
    have t3 : (8 < h) = False := eq_false e3
    have HOK := Lib.hid (show newOk s c h = true by rw [HQ.out, HSS.out, decide_eq_true (p := 1 ≤ c) (by omega), decide_eq_true (p := c ≤ 64) (by omega), decide_eq_true (p := 1 ≤ h) (by omega), decide_eq_true (p := h ≤ 8) (by omega)]; rfl)
    obtain ⟨cn, hcn⟩ : ∃ cn : Nat, c = (cn : Int) := ⟨c.toNat, by omega⟩
    obtain ⟨hn, hhn⟩ : ∃ hn : Nat, h = (hn : Int) := ⟨h.toNat, by omega⟩
    subst hcn; subst hhn
    have b3' : 1 ≤ cn ∧ cn ≤ 64 := by omega
    have b5' : 1 ≤ hn ∧ hn ≤ 8 := by omega
    have hm1 : cn * hn ≤ 64 * 8 := Nat.mul_le_mul b3'.2 b5'.2
    have hm0 : 1 * 1 ≤ cn * hn := Nat.mul_le_mul b3'.1 b5'.1
    have hm : IntKind.i64.wrap ((cn : Int) * (hn : Int)) = ((cn * hn : Nat) : Int) := by rw [← Int.natCast_mul]; exact IntWalk.i64_in _ (by omega)
    have hm2 : wrap64 ((cn : Int) * (hn : Int)) = ((cn * hn : Nat) : Int) := by
      rw [← Int.natCast_mul]
      generalize cn * hn = nn at hm1 ⊢
      unfold wrap64; omega
    obtain ⟨n, hnn⟩ : ∃ n, cn * hn = n := ⟨_, rfl⟩
    have HNN := Lib.hid hnn
    rw [hnn] at hm hm2 hm0 hm1
    clear hnn e0 e1 e2 e3 HBAD HQ HSS
    go_wp2_with (at_make; refine wpList_makeS rfl _ _ _ rfl trkElem .i64 .i64 _ _ n rfl rfl rfl rfl (by omega) (by unfold maxLen; omega) HS.out ?_
                 intro g w1 S1
                 rw [nil_made] at S1
                 have H1 := Lib.hid (S1.full (by omega))
                 clear S1)
    refine bodyPost_ret (by simp [results, Tryz.results65, go_sem]; rfl) rfl ?_
    unfold QNewR
    rw [if_pos HOK.out]
    refine ⟨_, rfl, ?_⟩
    rw [Int.toNat_natCast, Int.toNat_natCast]
    have hnn := HNN.out
    have S2 := (tracksQ_close (vs := List.replicate n (.slice none 0 0)) (ts := List.replicate n []) (by simp) (star_nilsQ H1.out n).s1)
    have S3 := (lastQ_none (.slice none 0 0) 0 0 S2).s1.allocC (qCells (freshDK s cn hn) g false (.slice none 0 0) 0 0) 157
    have ed : qCells (freshDK s cn hn) g false (.slice none 0 0) 0 0 = #[.string s, .int .i64 (cn : Int), .int .i64 (hn : Int), .slice (some ⟨g, 0, none⟩) n n, .int .i64 0, .int .i64 0, .int .i64 0, .bool false, .int .i64 0, .bool false, .slice none 0 0, .int .i64 0, .int .i64 0] := by
      simp [qCells, freshDK, hnn]
    have S4 : SL W (qdiskS w1.heap.size (freshDK s cn hn) :: F) (w1.alloc (.cells (qCells (freshDK s cn hn) g false (.slice none 0 0) 0 0) 157)) :=
      qdisk_close (s := freshDK s cn hn) (tb := g) (ch := false) rfl (by rw [show (freshDK s cn hn).tracks = List.replicate n [] by simp [freshDK, hnn]]; exact S3)
    rw [ed] at S4
    exact S4
end
end Go.Proofs.YtfhpaehfihnjaaaGreat.D
