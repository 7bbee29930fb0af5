/- Meth3, Meth4. -/
import Derived.Test.YtlbbmfmkhmmikaaGreatDMeth2
namespace Go.Proofs.YtlbbmfmkhmmikaaGreat.D
open Go.RowKit
section
variable {W w : World} {F : List SA} {x tb : Nat} {s : DK} {lp : Option Addr} {was : Bool}
set_option maxRecDepth 100000 in
set_option maxHeartbeats 8000000 in
theorem change_any (v' : Value) (t' : List Rec) (n : Int) (h : s.ok) (hl : s.last = none) (S : SL W (diskW x s was :: recsS v' t' :: F) w) : Calls Tryz.prog 243 #[.pointer (some ⟨x, 0, none⟩), v', .int .i64 n] w fun e w' => e = .returned (.tuple #[]) ∧ SL W (diskW x (dkChange s t' n) was :: F) w' := by
  obtain ⟨tb, lp, S0⟩ := diskW_open S
  obtain ⟨vs, hvs, S1⟩ := tracks_open S0.s1
  obtain ⟨v, hv1, hv2⟩ := zip_get hvs h.at_
  obtain ⟨A0, c0, rfl, hlc, hcm⟩ := recsS_len (S1.s1.take hv2)
  obtain ⟨A', c', rfl, _, _⟩ := recsS_len S0.s3
  have HS := Lib.hid S1.s2
  have HH := Lib.hid h
  have HL := Lib.hid hl
  have HV := Lib.hid (And.intro hvs (And.intro hv1 h.at_))
  have hb := h.here_lt
  have hnt := h.nt
  have hva : vs.toArray[s.here]? = some (.slice A0 s.recs.length c0) := by simpa using hv1
  have HVA := Lib.hid hva
  clear S S0 S1 h hl hvs hv1 hv2 hva
  obtain ⟨L, K, z⟩ := HS.out.look
  go_enter Tryz.func243, Tryz.ntmps243
  go_wp2_with fail
  refine (here_b HH.out HS.out).mono ?_
  rintro e w1 ⟨rfl, b1⟩
  have H1 := Lib.hid (HS.out.grow b1)
  clear b1 HS L K z
  go_wp2_with fail
  refine (records_any HH.out ((H1.out.s1.look.1 s.here).trans HVA.out) H1.out).mono ?_
  rintro e w2 ⟨rfl, b2⟩
  have H2 := Lib.hid (H1.out.grow b2)
  clear b2 H1
  obtain ⟨L, K, z⟩ := H2.out.look
  go_upto_region 1 with fail
  refine name_world (P := Code.wp _ _ _ _) ?_
  intro wB hwB
  have h3 := SL.cast hwB ((H2.out.set (off := 10) (v := .pointer (some ⟨w2.heap.size, 0, none⟩)) (cs' := dkCells s tb (some ⟨w2.heap.size, 0, none⟩) was) rfl).allocC #[.int .i64 (s.here : Int), .slice A0 s.recs.length c0, .int .i64 n] 265)
  simp only [World.size_setCell] at h3
  have H3 := Lib.hid h3
  clear h3 hwB L K z
  obtain ⟨L, K, z⟩ := H3.out.s1.look
  have HX := Lib.hid (fun (wx : World) (hx : Below wB.heap.size wB wx) => (hx.cell (p := ⟨x, 3, none⟩) z).trans (L 3))
  have HC := Lib.hid (fun (wx : World) (hx : Below wB.heap.size wB wx) => here_b HH.out (H3.out.s1.grow hx))
  clear L K z
  generalize w2.heap.size = lb at *
  refine wp_region_order (fun wx => Below wB.heap.size wB wx) [] [] [0, 1, 2, 3, 4, 5, 6, 7, 8] [] [9] (by kernel_rfl) (by kernel_rfl) (Below.refl _ _).drew (by intro c a d v w h; cases d <;> exact h) ?_
  simp only [pick, List.filterMap_cons, List.filterMap_nil, List.getElem?_cons_zero, List.getElem?_cons_succ]
  refine wpPure_nil ?_
  refine wpLoads_nil ?_
  (repeat (with_reducible refine wpQuiet_step ?_; intro K hK; go_simp; first | (with_reducible refine hK _ ?_; clear hK K) | (rw [if_neg (by decide)]; with_reducible refine hK _ ?_; clear hK K) | (refine ⟨_, fun wx hx => (by have f0 := HX.out wx hx; go_simp; with_reducible rfl), hK _ ?_⟩; clear hK K) | (refine ⟨_, fun wx hx => (by with_reducible refine (HC.out wx hx).mono ?_; rintro e w' ⟨rfl, h2⟩; exact ⟨rfl, hx.trans (h2.mono hx.size)⟩), hK _ ?_⟩; clear hK K) | (refine ⟨_, fun _ _ => rfl, hK _ ?_⟩; clear hK K))); with_reducible refine wpQuiet_nil ?_
  intro w3 b3
  have H4 := Lib.hid (H3.out.grow b3)
  clear b3 HX HC H3
  refine wpKeep_nil ?_
  obtain ⟨L, K, z⟩ := H4.out.s2.look
  have hq := (L s.here).trans HVA.out
  clear L
  go_wp2
  go_end0
  refine ⟨rfl, ?_⟩
  obtain ⟨hvs, hv1, hat⟩ := HV.out
  -- H4: change, disk, tracks' slices, tracks, last, new
  have S5 := tracks_swap2 (v' := .slice A' t'.length c') (t' := t') hvs hat hv1 (F := cel lb #[.int .i64 (s.here : Int), .slice A0 s.recs.length c0, .int .i64 n] 265 :: cel x (dkCells s tb (some ⟨lb, 0, none⟩) was) 136 :: lastS lp s.last :: F) (H4.out.s5.s4.s4)
  -- old track, tracks, change, disk, last
  have S6 := last_close S5.s2
  have S7 := S6.s3.drop
  have hd : dkCells (dkChange s t' n) tb (some ⟨lb, 0, none⟩) was = dkCells s tb (some ⟨lb, 0, none⟩) was := by simp [dkCells, dkChange, List.length_set]
  exact diskW_close (s := dkChange s t' n) (tb := tb) (lp := some ⟨lb, 0, none⟩) (by rw [hd]; exact S7.s2.s2.s1)
end
end Go.Proofs.YtlbbmfmkhmmikaaGreat.D
namespace Go.Proofs.YtlbbmfmkhmmikaaGreat.D
open Go.RowKit
section
variable {W w : World} {F : List SA} {x tb : Nat} {s : DK} {lp : Option Addr} {was : Bool}
/-- The selected track open. -/
theorem sel_open (h : s.ok) (S : SL W (diskW x s was :: F) w) : ∃ (tb : Nat) (lp : Option Addr) (vs : List Value) (A0 : Option Addr) (c0 : Nat), vs.length = s.tracks.length ∧ vs.toArray[s.here]? = some (.slice A0 s.recs.length c0) ∧ (List.zipWith recsS vs s.tracks)[s.here]? = some (recsS (.slice A0 s.recs.length c0) s.recs) ∧ s.recs.length ≤ c0 ∧ c0 ≤ maxLen ∧
    SL W (cel x (dkCells s tb lp was) 136 :: cel tb vs.toArray 72 :: star (List.zipWith recsS vs s.tracks) :: lastS lp s.last :: F) w := by
  obtain ⟨tb, lp, S0⟩ := diskW_open S
  obtain ⟨vs, hvs, S1⟩ := tracks_open S0.s1
  obtain ⟨v, hv1, hv2⟩ := zip_get hvs h.at_
  obtain ⟨A0, c0, rfl, hlc, hcm⟩ := recsS_len (S1.s1.take hv2)
  exact ⟨tb, lp, vs, A0, c0, hvs, by simpa using hv1, hv2, hlc, hcm, S1.s2⟩
theorem sel_close {vs : List Value} (hv : vs.length = s.tracks.length) (S : SL W (cel x (dkCells s tb lp was) 136 :: cel tb vs.toArray 72 :: star (List.zipWith recsS vs s.tracks) :: lastS lp s.last :: F) w) : SL W (diskW x s was :: F) w :=
  diskW_close (tracks_close hv S.b2).s1
set_option maxRecDepth 100000 in
theorem erase_any (A : Option Addr) (n c : Nat) (h : s.ok) (hl : s.last = none) (S : SL W (diskW x s was :: F) w) : Calls Tryz.prog 227 #[.pointer (some ⟨x, 0, none⟩), .slice A n c] w (RetM W F x (dkErase s)) := by
  have HS := Lib.hid S
  have HH := Lib.hid (And.intro h hl)
  clear S h hl
  (go_enter Tryz.func227, Tryz.ntmps227; go_upto_region 1 with fail; refine name_world (P := Code.wp _ _ _ _) ?_; intro wA hwA; have H1 := Lib.hid (SL.cast hwA (HS.out.allocC #[.slice none 0 0, .int .i64 0, .int .i64 0] 30)); clear hwA HS; generalize w.heap.size = rb at *)
  go_wp2_with fail
  refine (change_any (.slice none 0 0) [] 0 HH.out.1 HH.out.2 (recsS_close (ps := []) (H1.out.empty.nil _ _)).s2).mono ?_
  rintro e w2 ⟨rfl, S2⟩
  obtain ⟨tb, lp, S3⟩ := diskW_open S2
  have H3 := Lib.hid S3
  clear S2 S3 H1
  obtain ⟨L, K, z⟩ := H3.out.look
  go_wp2_with fail
  refine name_world (P := fun W => Calls _ _ _ W _) ?_; intro wd hwd
  have H4 := Lib.hid (SL.cast hwd (H3.out.set (off := 6) (v := .int .i64 0) (cs' := dkCells { dkChange s [] 0 with next := 0 } tb lp was) rfl).s3)
  clear hwd H3 L K z
  refine (done_any _ _ _ _).mono ?_
  rintro e w9 ⟨rfl, b9⟩
  have H9 := Lib.hid (H4.out.grow b9)
  clear b9 H4
  (obtain ⟨L, K, z⟩ := H9.out.look; go_wp2; refine bodyPost_ret (v := .agg #[.slice none 0 0, .int .i64 12, .int .i64 0]) (by simp [results, Tryz.results227, go_sem, L]) rfl ?_)
  exact RetM.of (diskW_close (s := { dkChange s [] 0 with next := 0 }) H9.out.set3.drop)
set_option maxRecDepth 100000 in
set_option maxHeartbeats 8000000 in
theorem byKey_any (A : Option Addr) (b : List UInt8) (c : Nat) (hi : Bool) (hd : CardB W F A b c) (h : s.ok) (S : SL W (diskW x s was :: F) w) : Calls Tryz.prog 245 #[.pointer (some ⟨x, 0, none⟩), .slice A b.length c, .bool hi] w (RetM W F x (dkKey s b hi)) := by
  obtain ⟨tb, lp, vs, A0, c0, hv0, hva, hvz, hlc, hcm, S1⟩ := sel_open h S
  have HS := Lib.hid S1
  have HV := Lib.hid hv0
  have HVZ := Lib.hid (And.intro hva hvz)
  have HH := Lib.hid h
  have HD := Lib.hid hd
  have hbl : b.length ≤ 9223372036854775807 := by have := (hd w S.drop).2; unfold maxLen at this; omega
  have HDK := Lib.hid (show dkKey s b hi = if b.length < 1 ∨ 255 < b.length then dkCheck s 128 else match searchN s.recs 0 b hi with
    | some i => dkHit s i
    | none => dkCheck s 2 from rfl)
  clear S S1 hd h hv0 hva hvz
  by_cases h0 : b.length < 1 ∨ 255 < b.length
  · have HR := Lib.hid (show dkKey s b hi = dkCheck s 128 by rw [HDK.out, if_pos h0])
    (go_enter Tryz.func245, Tryz.ntmps245; go_upto_region 1 with fail; refine name_world (P := Code.wp _ _ _ _) ?_; intro wA hwA; have H1 := Lib.hid (SL.cast hwA (HS.out.allocC #[.slice none 0 0, .int .i64 0, .int .i64 0] 30)); clear hwA HS; generalize w.heap.size = rb at *)
    by_cases h1 : b.length < 1
    · have t1 : ((b.length : Int) < 1) := by omega
      clear h0 h1
      go_wp2_with fail
      (refine (check_any 128 H1.out.s1).mono ?_; rintro e w9 ⟨rfl, S9⟩; have H9 := Lib.hid S9.s1; clear S9; (obtain ⟨L, K, z⟩ := H9.out.look; go_wp2; refine bodyPost_ret (v := .agg #[.slice none 0 0, .int .i64 14, .int .i64 128]) (by simp [results, Tryz.results245, go_sem, L]) rfl ?_); rw [HR.out]; exact RetM.of (sel_close HV.out H9.out.set3.drop))
    · have t1 : ¬ ((b.length : Int) < 1) := by omega
      have t2 : ((255 : Int) < (b.length : Int)) := by omega
      clear h0 h1
      go_wp2_with fail
      (refine (check_any 128 H1.out.s1).mono ?_; rintro e w9 ⟨rfl, S9⟩; have H9 := Lib.hid S9.s1; clear S9; (obtain ⟨L, K, z⟩ := H9.out.look; go_wp2; refine bodyPost_ret (v := .agg #[.slice none 0 0, .int .i64 14, .int .i64 128]) (by simp [results, Tryz.results245, go_sem, L]) rfl ?_); rw [HR.out]; exact RetM.of (sel_close HV.out H9.out.set3.drop))
  · have HDE := Lib.hid (show dkKey s b hi = match searchN s.recs 0 b hi with
      | some i => dkHit s i
      | none => dkCheck s 2 by rw [HDK.out, if_neg h0])
    have t1 : ¬ ((b.length : Int) < 1) := by omega
    have t2 : ¬ ((255 : Int) < (b.length : Int)) := by omega
    clear h0 HDK
    (go_enter Tryz.func245, Tryz.ntmps245; go_upto_region 1 with fail; refine name_world (P := Code.wp _ _ _ _) ?_; intro wA hwA; have H1 := Lib.hid (SL.cast hwA (HS.out.allocC #[.slice none 0 0, .int .i64 0, .int .i64 0] 30)); clear hwA HS; generalize w.heap.size = rb at *)
    go_wp2_with fail
    refine (records_any HH.out ((H1.out.s2.look.1 s.here).trans HVZ.out.1) H1.out.s1).mono ?_
    rintro e w2 ⟨rfl, b2⟩
    have H2 := Lib.hid (H1.out.grow b2)
    clear b2 H1
    have HCS := Lib.hid (search_any A0 s.recs c0 0 A b c hi w2 (recsS_at (H2.out.s3.take HVZ.out.2)) hlc hcm (HD.out w2 H2.out.drop.drop.drop.drop.drop))
    generalize searchN s.recs 0 b hi = q at *
    go_wp2_with fail
    refine HCS.out.mono ?_
    rintro e w3 ⟨rfl, b3⟩
    have H3 := Lib.hid (H2.out.grow b3)
    clear b3 H2 HCS
    cases q with
    | none =>
      have HR := Lib.hid (show dkKey s b hi = dkCheck s 2 from HDE.out)
      simp only [Option.getD_none, Option.isSome_none]
      go_wp2_with fail
      (refine (check_any 2 H3.out.s1).mono ?_; rintro e w9 ⟨rfl, S9⟩; have H9 := Lib.hid S9.s1; clear S9; (obtain ⟨L, K, z⟩ := H9.out.look; go_wp2; refine bodyPost_ret (v := .agg #[.slice none 0 0, .int .i64 14, .int .i64 2]) (by simp [results, Tryz.results245, go_sem, L]) rfl ?_); rw [HR.out]; exact RetM.of (sel_close HV.out H9.out.set3.drop))
    | some i =>
      have HR := Lib.hid (show dkKey s b hi = dkHit s i from HDE.out)
      simp only [Option.getD_some, Option.isSome_some]
      go_wp2_with fail
      (refine (hit_any i H3.out.s1).mono ?_; rintro e w9 ⟨rfl, S9⟩; have H9 := Lib.hid S9.s1; clear S9; (obtain ⟨L, K, z⟩ := H9.out.look; go_wp2; refine bodyPost_ret (v := .agg #[.slice none 0 0, .int .i64 76, .int .i64 0]) (by simp [results, Tryz.results245, go_sem, L]) rfl ?_); rw [HR.out]; exact RetM.of (sel_close HV.out H9.out.set3.drop))
theorem searchKey_any (A : Option Addr) (b : List UInt8) (c : Nat) (hd : CardB W F A b c) (h : s.ok) (S : SL W (diskW x s was :: F) w) : Calls Tryz.prog 230 #[.pointer (some ⟨x, 0, none⟩), .slice A b.length c] w (RetM W F x (dkKey s b false)) := by
  have HS := Lib.hid S
  have HD := Lib.hid hd
  clear S hd
  ((go_enter Tryz.func230, Tryz.ntmps230; go_upto_region 1 with fail; refine name_world (P := Code.wp _ _ _ _) ?_; intro wA hwA; have H1 := Lib.hid (SL.cast hwA (HS.out.allocC #[.slice none 0 0, .int .i64 0, .int .i64 0] 30)); clear hwA HS; generalize w.heap.size = rb at *); have hdA : CardB W (cel rb #[.slice none 0 0, .int .i64 0, .int .i64 0] 30 :: F) A b c := fun w S => HD.out w S.drop; go_wp2_with fail; refine (byKey_any A b c false hdA h H1.out.s1).mono ?_; rintro e w9 ⟨A9, c9, rfl, S9⟩; have H9 := Lib.hid S9.s2; clear S9; obtain ⟨L, K, z⟩ := H9.out.look; go_wp2; refine bodyPost_ret (by simp [results, Tryz.results230, go_sem, L]; rfl) rfl ?_; exact ⟨A9, c9, rfl, H9.out.set3.drop⟩)
theorem searchKeyHigh_any (A : Option Addr) (b : List UInt8) (c : Nat) (hd : CardB W F A b c) (h : s.ok) (S : SL W (diskW x s was :: F) w) : Calls Tryz.prog 231 #[.pointer (some ⟨x, 0, none⟩), .slice A b.length c] w (RetM W F x (dkKey s b true)) := by
  have HS := Lib.hid S
  have HD := Lib.hid hd
  clear S hd
  ((go_enter Tryz.func231, Tryz.ntmps231; go_upto_region 1 with fail; refine name_world (P := Code.wp _ _ _ _) ?_; intro wA hwA; have H1 := Lib.hid (SL.cast hwA (HS.out.allocC #[.slice none 0 0, .int .i64 0, .int .i64 0] 30)); clear hwA HS; generalize w.heap.size = rb at *); have hdA : CardB W (cel rb #[.slice none 0 0, .int .i64 0, .int .i64 0] 30 :: F) A b c := fun w S => HD.out w S.drop; go_wp2_with fail; refine (byKey_any A b c true hdA h H1.out.s1).mono ?_; rintro e w9 ⟨A9, c9, rfl, S9⟩; have H9 := Lib.hid S9.s2; clear S9; obtain ⟨L, K, z⟩ := H9.out.look; go_wp2; refine bodyPost_ret (by simp [results, Tryz.results231, go_sem, L]; rfl) rfl ?_; exact ⟨A9, c9, rfl, H9.out.set3.drop⟩)
end
end Go.Proofs.YtlbbmfmkhmmikaaGreat.D
