/- The document's Track, and the law's same. -/
import Derived.Test.YtmkndbledppniaaQ
namespace Go.Proofs.Ytmkndbledppniaa
open Go.RowKit
theorem still_b {w w' : World} {e v : Ending} (h : e = v ∧ w' = w) : e = v ∧ Below w.heap.size w w' := ⟨h.1, by rw [h.2]; exact Below.refl _ _⟩
section
variable {W w : World} {F : List SA} {x y : Nat} {s : DK}
set_option maxRecDepth 100000 in
set_option maxHeartbeats 8000000 in
theorem qtrack_any (n : Int) (h : s.ok) (S : SL W (qdiskS y s :: F) w) : Calls Try.prog 17 #[.pointer (some ⟨y, 0, none⟩), .int .i64 n] w fun e w' => ∃ (A : Option Addr) (c : Nat), e = .returned (.tuple #[.slice A (trkOf s n).length c, .bool (trkIs s n)]) ∧ SL W (recsS (.slice A (trkOf s n).length c) (trkOf s n) :: qdiskS y s :: F) w' := by
  obtain ⟨tb, old, a, m, S1⟩ := qdisk_open S
  have hnt := h.nt
  by_cases hin : 0 ≤ n ∧ n < s.tracks.length
  · obtain ⟨k, rfl⟩ : ∃ k : Nat, n = (k : Int) := ⟨n.toNat, by omega⟩
    have hk : k < s.tracks.length := by omega
    have ht : s.tracks[k]? = some s.tracks[k] := List.getElem?_eq_getElem hk
    have hv := h.val _ (List.mem_of_getElem? ht)
    generalize s.tracks[k] = t at ht hv
    obtain ⟨vs, hvs, S2⟩ := tracksQ_open S1.s1
    obtain ⟨v, hv1, hv2⟩ := zipQ_get hvs ht
    obtain ⟨A0, c0, rfl, hlc, hcm⟩ := trackQ_len (S2.s1.take hv2)
    have HS := Lib.hid S2.s2
    have HV := Lib.hid (And.intro hvs hv2)
    have HT := Lib.hid (And.intro ht hv)
    have HQ := Lib.hid (And.intro (show trkOf s (k : Int) = t by unfold trkOf; rw [if_pos (by omega), Int.toNat_natCast, ht]; rfl) (show trkIs s (k : Int) = true from decide_eq_true hin))
    have hva : vs.toArray[k]? = some (.slice A0 t.length c0) := by simpa using hv1
    have t1 : ((k : Int) < 0) = False := eq_false (by omega)
    have t2 : ((s.tracks.length : Int) ≤ (k : Int)) = False := eq_false (by omega)
    generalize hch : s.last.isSome = ch at *
    have HCH := Lib.hid hch
    obtain ⟨L, K, z⟩ := HS.out.look
    have hq := (HS.out.s1.look.1 k).trans hva
    clear S S1 S2 h hvs hv2 hva hv1 ht hv hch hin
    go_enter Try.func17, Try.ntmps17
    have hfit := HT.out.2
    go_wp2_with fail
    refine (rcopy_any A0 t c0 HS.out (fun wx Sx => trackQ_at (Sx.s2.take HV.out.2)) (valid_fit2 hfit)).mono ?_
    rintro e w3 ⟨A3, c3, rfl, S3⟩
    have H3 := Lib.hid S3
    clear S3 L K z hq HS
    go_wp2
    refine bodyPost_ret (v := .tuple #[.slice A3 t.length c3, .bool true]) (by simp [results, Try.results17, go_sem]) rfl ?_
    rw [HQ.out.1, HQ.out.2]
    refine ⟨A3, c3, rfl, ?_⟩
    exact (selQ_close HCH.out.symm HV.out.1 H3.out.b4).s1
  · have HS := Lib.hid S1
    have hlen : (s.tracks.length : Int) ≤ 512 := by omega
    have ht : trkOf s n = [] := by
      unfold trkOf
      by_cases h0 : 0 ≤ n
      · rw [if_pos h0, List.getElem?_eq_none (by omega)]; rfl
      · rw [if_neg h0]
    have HT := Lib.hid ht
    have HI := Lib.hid (show trkIs s n = false from decide_eq_false hin)
    have hfin : ∀ w', SL W (cel y (qCells s tb s.last.isSome old a m) 76 :: tracksQ tb s.tracks :: lastQ old a m s.last :: F) w' → SL W (recsS (.slice none 0 0) [] :: qdiskS y s :: F) w' := fun w' S' => recsS_close (ps := []) ((qdisk_close rfl S').empty.nil _ _)
    have HF := Lib.hid hfin
    generalize s.last.isSome = ch at *
    obtain ⟨L, K, z⟩ := HS.out.look
    clear S S1 h ht hfin
    go_enter Try.func17, Try.ntmps17
    by_cases h0 : n < 0
    · have t1 : (n < 0) = True := eq_true h0
      clear h0 hin
      go_wp2
      refine bodyPost_ret (v := .tuple #[.slice none 0 0, .bool false]) (by simp [results, Try.results17, go_sem]) rfl ?_
      rw [HT.out, HI.out]
      exact ⟨none, 0, rfl, HF.out _ HS.out⟩
    · have t1 : (n < 0) = False := eq_false h0
      have t2 : ((s.tracks.length : Int) ≤ n) = True := eq_true (by omega)
      clear h0 hin
      go_wp2
      refine bodyPost_ret (v := .tuple #[.slice none 0 0, .bool false]) (by simp [results, Try.results17, go_sem]) rfl ?_
      rw [HT.out, HI.out]
      exact ⟨none, 0, rfl, HF.out _ HS.out⟩
theorem diskS_len (h : s.ok) : s.recs.length ≤ 4096 := by
  have := h.val _ (List.mem_of_getElem? h.at_)
  have := valid_len this
  omega
set_option maxRecDepth 100000 in
set_option maxHeartbeats 8000000 in
/-- The program's unit and the document's unit in one state are the same to the law. -/
theorem lsame_any (h : s.ok) (S : SL W (diskS x s :: qdiskS y s :: F) w) : Calls Try.prog 20 #[.pointer (some ⟨x, 0, none⟩), .pointer (some ⟨y, 0, none⟩)] w fun e w' => e = .returned (.bool true) ∧ SL W (diskS x s :: qdiskS y s :: F) w' := by
  have HS := Lib.hid S
  have HH := Lib.hid h
  have hA := arm_any h S
  have HA := Lib.hid hA
  clear S h hA
  go_enter Try.func20, Try.ntmps20
  go_wp2_with fail
  refine HA.out.mono ?_
  rintro e w1 ⟨rfl, b1⟩
  have H1 := Lib.hid (HS.out.grow (b1.below _))
  clear b1 HS HA
  go_upto_region 2 with fail
  obtain ⟨tb, old, a, m, S1⟩ := qdisk_open H1.out.s1
  have H2 := Lib.hid S1
  clear S1
  generalize hch : s.last.isSome = ch at *
  have HCH := Lib.hid hch
  clear hch
  go_wp2_with fail
  refine (qhere_b HH.out H2.out).mono ?_
  rintro e w2 ⟨rfl, b2⟩
  have H3 := Lib.hid (H2.out.grow b2)
  clear b2 H1 H2
  go_wp2_with fail
  refine (track_any (s.here : Int) HH.out (qdisk_close HCH.out.symm H3.out).s1).mono ?_
  rintro e w3 ⟨A3, c3, rfl, S3⟩
  have ht : trkOf s (s.here : Int) = s.recs := by unfold trkOf; rw [if_pos (by omega), Int.toNat_natCast, HH.out.at_]; rfl
  have hi : trkIs s (s.here : Int) = true := decide_eq_true ⟨by omega, by exact_mod_cast HH.out.here_lt⟩
  rw [ht] at S3
  rw [ht, hi]
  clear ht hi H3
  have H4 := Lib.hid S3
  clear S3
  obtain ⟨tb, old, a, m, vs, A0, c0, hv0, hva, hvz, hlc, hcm, S5⟩ := selQ_open HH.out H4.out.s2
  have H5 := Lib.hid S5
  have HV := Lib.hid (And.intro hv0 hvz)
  generalize hch : s.last.isSome = ch at *
  have HC2 := Lib.hid hch
  clear hch S5 hv0 hvz H4
  -- qdisk, slices, tracks, last, recs, disk
  go_upto_region 3 with fail
  have hf : ∀ wx, Below w3.heap.size w3 wx → wx.cell? ⟨y, 4, none⟩ = some (.int .i64 (s.cyl : Int)) ∧ wx.cell? ⟨y, 5, none⟩ = some (.int .i64 (s.head : Int)) ∧ wx.cell? ⟨y, 8, none⟩ = some (.int .i64 (s.sense : Int)) ∧ wx.cell? ⟨y, 3, none⟩ = some (.slice (some ⟨tb, 0, none⟩) s.tracks.length s.tracks.length) ∧ wx.cell? ⟨tb, s.here, none⟩ = some (.slice A0 s.recs.length c0) := fun wx hx => by
    obtain ⟨L, K, z⟩ := (H5.out.grow hx).look
    obtain ⟨L2, K2, z2⟩ := (H5.out.grow hx).s1.look
    exact ⟨L 4, L 5, L 8, L 3, (L2 s.here).trans hva⟩
  have HX := Lib.hid hf
  have hc1 : ∀ wx, Below w3.heap.size w3 wx → Calls Try.prog 28 #[.pointer (some ⟨x, 0, none⟩)] wx fun e w' => e = .returned (.int .i64 (s.sense : Int)) ∧ Below wx.heap.size wx w' := fun wx hx => (sense_any HH.out (H5.out.grow hx).s5).mono fun e w' k => still_b k
  have HC1 := Lib.hid hc1
  have hc3 : ∀ wx, Below w3.heap.size w3 wx → Calls Try.prog 38 #[.pointer (some ⟨y, 0, none⟩)] wx fun e w' => e = .returned (.int .i64 (s.here : Int)) ∧ Below wx.heap.size wx w' := fun wx hx => (qhere_b HH.out (H5.out.grow hx)).mono fun e w' k => k
  have HC3 := Lib.hid hc3
  have hc4 : ∀ wx, Below w3.heap.size w3 wx → Calls Try.prog 19 #[.slice A3 s.recs.length c3, .slice A0 s.recs.length c0] wx fun e w' => e = .returned (.bool true) ∧ Below wx.heap.size wx w' := fun wx hx => same_any A3 A0 s.recs c3 c0 wx (recsS_at (H5.out.grow hx).s4) (trackQ_at ((H5.out.grow hx).s2.take HV.out.2)) (by have := diskS_len HH.out; omega)
  have HC4 := Lib.hid hc4
  have hlt := HH.out.here_lt
  clear hf hc1 hc3 hc4
  refine wp_region_quiet (C := Below w3.heap.size w3) (by kernel_rfl) (by kernel_rfl) (Below.refl _ _).drew ?_
  (repeat (with_reducible refine wpQuiet_step ?_; intro K hK; go_simp; first | (with_reducible refine hK _ ?_; clear hK K) | (rw [if_neg (by decide)]; with_reducible refine hK _ ?_; clear hK K) | (refine ⟨_, fun wx hx => (by obtain ⟨f0, f1, f2, f3, f4⟩ := HX.out wx hx; go_simp; with_reducible rfl), hK _ ?_⟩; clear hK K) | (first | (refine ⟨_, fun wx hx => (by with_reducible refine (HC1.out wx hx).mono ?_; rintro e w' ⟨rfl, h2⟩; exact ⟨rfl, hx.trans (h2.mono hx.size)⟩), hK _ ?_⟩; clear hK K) | (refine ⟨_, fun wx hx => (by with_reducible refine (HC3.out wx hx).mono ?_; rintro e w' ⟨rfl, h2⟩; exact ⟨rfl, hx.trans (h2.mono hx.size)⟩), hK _ ?_⟩; clear hK K) | (refine ⟨_, fun wx hx => (by with_reducible refine (HC4.out wx hx).mono ?_; rintro e w' ⟨rfl, h2⟩; exact ⟨rfl, hx.trans (h2.mono hx.size)⟩), hK _ ?_⟩; clear hK K)) | (refine ⟨_, fun _ _ => rfl, hK _ ?_⟩; clear hK K))); with_reducible refine wpQuiet_nil ?_
  intro wq hwq
  have H6 := Lib.hid (H5.out.grow hwq)
  clear hwq
  go_wp2
  go_ret
  refine ⟨rfl, ?_⟩
  have T := (selQ_close HC2.out.symm HV.out.1 H6.out).s1
  exact T.drop.s1
end
end Go.Proofs.Ytmkndbledppniaa
