/- Undo and the small views of a unit. -/
import Derived.Test.YtmkndbledppniaaGreatClone
import Derived.Test.YtmkndbledppniaaGreatNew
namespace Go.Proofs.YtmkndbledppniaaGreat
open Go.RowKit
section
variable {W w : World} {F : List SA} {x : Nat} {s : DK}
theorem sense_any (h : s.ok) (S : SL W (diskS x s :: F) w) : Calls Tryz.prog 28 #[.pointer (some ⟨x, 0, none⟩)] w fun e w' => e = .returned (.int .i64 (s.sense : Int)) ∧ w' = w := by
  obtain ⟨was, S0⟩ := disk_open S
  obtain ⟨tb, lp, S1⟩ := diskW_open S0
  have HS := Lib.hid S1
  have hn : 0 < s.tracks.length := by have := h.here_lt; omega
  obtain ⟨L, K, z⟩ := S1.look
  clear S S0 S1 h
  go_enter Tryz.func28, Tryz.ntmps28
  go_wp2_with fail
  refine (ready_any hn HS.out).mono ?_
  rintro e w2 ⟨rfl, rfl⟩
  go_wp2
  go_ret
  exact ⟨rfl, rfl⟩
theorem arm_any (h : s.ok) (S : SL W (diskS x s :: F) w) : Calls Tryz.prog 26 #[.pointer (some ⟨x, 0, none⟩)] w fun e w' => e = .returned (.tuple #[.int .i64 (s.cyl : Int), .int .i64 (s.head : Int)]) ∧ Still w w' := by
  obtain ⟨was, S0⟩ := disk_open S
  obtain ⟨tb, lp, S1⟩ := diskW_open S0
  have HS := Lib.hid S1
  have hn : 0 < s.tracks.length := by have := h.here_lt; omega
  obtain ⟨L, K, z⟩ := S1.look
  clear S S0 S1 h
  go_enter Tryz.func26, Tryz.ntmps26
  go_wp2_with fail
  refine (ready_any hn HS.out).mono ?_
  rintro e w2 ⟨rfl, rfl⟩
  go_wp2
  go_quiet (fail)
  go_wp2
  refine bodyPost_ret (v := .tuple #[.int .i64 (s.cyl : Int), .int .i64 (s.head : Int)]) (by simp [results, Tryz.results26, go_sem]) rfl ⟨rfl, by first | exact still_1 _ _ | exact still_2 _ _ _⟩
/-- The track with a number, and whether there is one. -/
def trkOf (s : DK) (n : Int) : List Rec := if 0 ≤ n then s.tracks[n.toNat]?.getD [] else []
def trkIs (s : DK) (n : Int) : Bool := decide (0 ≤ n ∧ n < s.tracks.length)
set_option maxRecDepth 100000 in
set_option maxHeartbeats 8000000 in
theorem track_any (n : Int) (h : s.ok) (S : SL W (diskS x s :: F) w) : Calls Tryz.prog 9 #[.pointer (some ⟨x, 0, none⟩), .int .i64 n] w fun e w' => ∃ (A : Option Addr) (c : Nat), e = .returned (.tuple #[.slice A (trkOf s n).length c, .bool (trkIs s n)]) ∧ SL W (recsS (.slice A (trkOf s n).length c) (trkOf s n) :: diskS x s :: F) w' := by
  obtain ⟨was, S0⟩ := disk_open S
  obtain ⟨tb, lp, S1⟩ := diskW_open S0
  have hn : 0 < s.tracks.length := by have := h.here_lt; omega
  have hnt := h.nt
  by_cases hin : 0 ≤ n ∧ n < s.tracks.length
  · obtain ⟨k, rfl⟩ : ∃ k : Nat, n = (k : Int) := ⟨n.toNat, by omega⟩
    have hk : k < s.tracks.length := by omega
    have ht : s.tracks[k]? = some s.tracks[k] := List.getElem?_eq_getElem hk
    have hv := h.val _ (List.mem_of_getElem? ht)
    generalize s.tracks[k] = t at ht hv
    obtain ⟨vs, hvs, S2⟩ := tracks_open S1.s1
    obtain ⟨v, hv1, hv2⟩ := zip_get hvs ht
    obtain ⟨A0, c0, rfl, hlc, hcm⟩ := recsS_len (S2.s1.take hv2)
    have HS := Lib.hid S2.s2
    have HV := Lib.hid (And.intro hvs hv2)
    have HT := Lib.hid (And.intro ht hv)
    have HQ := Lib.hid (And.intro (show trkOf s (k : Int) = t by unfold trkOf; rw [if_pos (by omega), Int.toNat_natCast, ht]; rfl) (show trkIs s (k : Int) = true from decide_eq_true hin))
    have hva : vs.toArray[k]? = some (.slice A0 t.length c0) := by simpa using hv1
    obtain ⟨L, K, z⟩ := S2.s2.look
    have hq := (S2.look.1 k).trans hva
    clear S S0 S1 S2 h hvs hv2 hva hv1 ht hv
    go_enter Tryz.func9, Tryz.ntmps9
    go_wp2_with fail
    refine (ready_any hn HS.out).mono ?_
    rintro e w2 ⟨rfl, rfl⟩
    -- disk, slices, tracks, last
    have hfit := HT.out.2
    go_wp2_with fail
    refine (dclone_any A0 t c0 HS.out (fun wx Sx => recsS_at (Sx.s2.take HV.out.2)) (valid_fit2 hfit) (by have := valid_len hfit; omega) (fun y hy => by obtain ⟨j, hj⟩ := List.mem_iff_getElem?.1 hy; have := valid_rec hfit hj; omega)).mono ?_
    rintro e w3 ⟨A3, c3, rfl, S3⟩
    have H3 := Lib.hid S3
    clear S3 L K z hq HS
    go_wp2
    refine bodyPost_ret (v := .tuple #[.slice A3 t.length c3, .bool true]) (by simp [results, Tryz.results9, go_sem]) rfl ?_
    rw [HQ.out.1, HQ.out.2]
    refine ⟨A3, c3, rfl, ?_⟩
    exact (disk_close (sel_close HV.out.1 H3.out.b4)).s1
  · have HS := Lib.hid S1
    have hlen : (s.tracks.length : Int) ≤ 512 := by omega
    obtain ⟨L, K, z⟩ := S1.look
    have ht : trkOf s n = [] := by
      unfold trkOf
      by_cases h0 : 0 ≤ n
      · rw [if_pos h0, List.getElem?_eq_none (by omega)]; rfl
      · rw [if_neg h0]
    have HT := Lib.hid ht
    have HI := Lib.hid (show trkIs s n = false from decide_eq_false hin)
    have hfin : ∀ w', SL W (cel x (dkCells s tb lp was) 50 :: tracksS tb s.tracks :: lastS lp s.last :: F) w' → SL W (recsS (.slice none 0 0) [] :: diskS x s :: F) w' := fun w' S' => recsS_close (ps := []) ((disk_close (diskW_close S')).empty.nil _ _)
    have HF := Lib.hid hfin
    clear S S0 S1 h ht hfin
    go_enter Tryz.func9, Tryz.ntmps9
    by_cases h0 : n < 0
    · have t1 : (n < 0) = True := eq_true h0
      clear h0 hin
      go_wp2_with fail
      refine (ready_any hn HS.out).mono ?_
      rintro e w2 ⟨rfl, rfl⟩
      go_wp2
      refine bodyPost_ret (v := .tuple #[.slice none 0 0, .bool false]) (by simp [results, Tryz.results9, go_sem]) rfl ?_
      rw [HT.out, HI.out]
      exact ⟨none, 0, rfl, HF.out _ HS.out⟩
    · have t1 : (n < 0) = False := eq_false h0
      have t2 : ((s.tracks.length : Int) ≤ n) = True := eq_true (by omega)
      clear h0 hin
      go_wp2_with fail
      refine (ready_any hn HS.out).mono ?_
      rintro e w2 ⟨rfl, rfl⟩
      go_wp2
      refine bodyPost_ret (v := .tuple #[.slice none 0 0, .bool false]) (by simp [results, Tryz.results9, go_sem]) rfl ?_
      rw [HT.out, HI.out]
      exact ⟨none, 0, rfl, HF.out _ HS.out⟩
end
end Go.Proofs.YtmkndbledppniaaGreat
