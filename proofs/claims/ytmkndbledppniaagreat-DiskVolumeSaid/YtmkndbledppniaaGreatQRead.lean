/- The document's unit: fill, Count, read. -/
import Derived.Test.YtmkndbledppniaaGreatQM1
namespace Go.Proofs.YtmkndbledppniaaGreat
open Go.RowKit
section
variable {W w : World} {F : List SA}
theorem fill_step {b : List UInt8} {n k : Nat} (hk : k < n) (hb : k < b.length) : (b.take k ++ List.replicate (n - k) 0).set k (b[k]'hb) = b.take (k + 1) ++ List.replicate (n - (k + 1)) 0 := by
  have hl : (b.take k).length = k := by rw [List.length_take]; omega
  rw [List.set_append_right _ _ (by omega), hl, Nat.sub_self, List.take_add_one, List.getElem?_eq_getElem hb, show n - k = (n - (k + 1)) + 1 by omega, List.replicate_succ]
  simp only [Option.toList_some, List.append_assoc, List.cons_append, List.nil_append, List.set_cons_zero]
theorem fill_end {b : List UInt8} {n k : Nat} (hk : k ≤ n) (hb : k ≤ b.length) (h : ¬ (k < n ∧ k < b.length)) : b.take k ++ List.replicate (n - k) 0 = padL b n := by
  unfold padL
  by_cases e : k < n
  · obtain rfl : k = b.length := by omega
    rw [List.take_of_length_le (Nat.le_refl _), List.take_of_length_le (by omega)]
  · obtain rfl : k = n := by omega
    rw [Nat.sub_self, show k - b.length = 0 by omega]
set_option maxRecDepth 100000 in
set_option maxHeartbeats 8000000 in
theorem fill_any (A : Option Addr) (b : List UInt8) (m c n : Nat) (hm : b.length = m) (hd : CardAt w A b c) (hn : n ≤ 1000000) (S : SL W F w) : Calls Tryz.prog 68 #[.slice A m c, .int .i64 (n : Int)] w fun e w' => ∃ g, e = .returned (.slice (some ⟨g, 0, none⟩) n n) ∧ SL W (rowS 5 1 (.slice (some ⟨g, 0, none⟩) n n) n (Lib.byteCells (padL b n)) :: F) w' ∧ Below w.heap.size w w' := by
  subst hm
  have HS := Lib.hid S
  have HD := Lib.hid hd
  have HW := Lib.hid (SL.start w)
  have hbl : b.length ≤ 9223372036854775807 := by have := hd.2; unfold maxLen at this; omega
  clear S hd
  go_enter Tryz.func68, Tryz.ntmps68
  go_wp2_with (at_make; refine wpList_makeS rfl _ _ _ rfl bElem .i64 .i64 _ _ n rfl rfl rfl rfl (by omega) (by unfold maxLen; omega) HW.out ?_
               intro g w1 S1
               rw [← zeros_made] at S1
               have H1 := Lib.hid S1
               clear S1)
  go_loopw [6] (fun i wr => ∃ k : Nat, k ≤ n ∧ k ≤ b.length ∧ i = .int .i64 k ∧ SL w (rowS 5 1 (.slice (some ⟨g, 0, none⟩) n n) n (Lib.byteCells (b.take k ++ List.replicate (n - k) 0)) :: []) wr) (fun i _ => n - (intOf i).toNat)
  case atStart => exact ⟨0, Nat.zero_le _, Nat.zero_le _, rfl, by simpa using H1.out⟩
  case round =>
    obtain ⟨k, hk, hkb, rfl, S2⟩ := hrel
    have H2 := Lib.hid S2
    clear S2 H1
    by_cases hlt : k < n ∧ k < b.length
    · obtain ⟨h1, h2⟩ := hlt
      obtain ⟨g0, off, hA, _, hc⟩ := (HD.out.grow H2.out.below).1 (by intro e; have := congrArg List.length e; rw [byteCells_len] at this; have h4 : b.length = 0 := this; omega)
      subst hA
      have c4 := hc k _ (byteCells_get b k h2)
      obtain ⟨g9, u, e9, _, k9, f9, z9, hset⟩ := row_set h1 H2.out
      injection e9 with e9; injection e9 with e9 _; subst e9
      have hst := hset (.int .u8 (b[k].toNat : Int))
      rw [byteCells_set, fill_step h1 h2] at hst
      have HST := Lib.hid hst
      have H12 := Lib.hid (And.intro h1 h2)
      have t1 : ((k : Int) < (n : Int)) = True := eq_true (by omega)
      have t2 : ((k : Int) < (b.length : Int)) = True := eq_true (by omega)
      generalize b[k].toNat = z at c4 HST
      clear hst hset hc
      go_wp2
      go_roundw
      case rel => exact ⟨k + 1, by have := H12.out; omega, by have := H12.out; omega, by go_num, HST.out⟩
      case measure => have := H12.out; simp [intOf]; omega
    · have HE := Lib.hid (fill_end hk hkb hlt)
      have hfin : ∃ g, (Ending.returned (.slice (some ⟨g, 0, none⟩) n n)) = .returned (.slice (some ⟨g, 0, none⟩) n n) := ⟨g, rfl⟩
      by_cases h1 : k < n
      · have t1 : ((k : Int) < (n : Int)) = True := eq_true (by omega)
        have t2 : ((k : Int) < (b.length : Int)) = False := eq_false (by omega)
        clear hlt h1
        go_wp2
        go_ret
        rw [HE.out] at H2
        exact ⟨g, rfl, HS.out.join H2.out, H2.out.below⟩
      · have t1 : ((k : Int) < (n : Int)) = False := eq_false (by omega)
        clear hlt h1
        go_wp2
        go_ret
        rw [HE.out] at H2
        exact ⟨g, rfl, HS.out.join H2.out, H2.out.below⟩
theorem cnt_app {c h : Nat} {y : Rec} (h1 : 1 ≤ y.r) (h2 : y.r ≤ 255) (h3 : y.key.length ≤ 255) : Lib.byteCells (halfL c) ++ Lib.byteCells (halfL h) ++ [.int .u8 y.r, .int .u8 (y.key.length : Int)] ++ Lib.byteCells (halfL y.data.length) = Lib.byteCells (cntL c h y) := by
  have e3 : ((UInt8.ofNat y.r.toNat).toNat : Int) = y.r := by rw [UInt8.toNat_ofNat']; omega
  have e4 : ((UInt8.ofNat y.key.length).toNat : Int) = y.key.length := by rw [UInt8.toNat_ofNat']; omega
  unfold cntL
  rw [byteCells_app, byteCells_app, byteCells_app]
  show _ = _ ++ [Value.int .u8 ((UInt8.ofNat y.r.toNat).toNat : Int), Value.int .u8 ((UInt8.ofNat y.key.length).toNat : Int)] ++ _
  rw [e3, e4]
set_option maxRecDepth 100000 in
set_option maxHeartbeats 8000000 in
theorem qcount_any (cn hn : Nat) (y : Rec) (Ak Ad : Option Addr) (ck cd : Nat) (hcy : cn ≤ 64) (hhd : hn ≤ 8) (hy : 1 ≤ y.r ∧ y.r ≤ 255 ∧ y.key.length ≤ 255 ∧ y.data.length ≤ 2016) (S : SL W F w) :
    Calls Tryz.prog 66 #[.int .i64 (cn : Int), .int .i64 (hn : Int), .agg #[.int .i64 y.r, .slice Ak y.key.length ck, .slice Ad y.data.length cd, .bool y.bad]] w fun e w' => ∃ A c, e = .returned (.slice A 8 c) ∧ SL W (rowS 5 1 (.slice A 8 c) 8 (Lib.byteCells (cntL cn hn y)) :: F) w' := by
  have HS := Lib.hid S
  obtain ⟨hy1, hy2, hy3, hy4⟩ := hy
  have HCA := Lib.hid (cnt_app (c := cn) (h := hn) hy1 hy2 hy3)
  clear S
  go_enter Tryz.func66, Tryz.ntmps66
  go_upto_region 1 with fail
  refine name_world (P := Code.wp _ _ _ _) ?_
  intro wA hwA
  have H1 := Lib.hid (SL.cast hwA (HS.out.allocC #[.int .i64 y.r, .slice Ak y.key.length ck, .slice Ad y.data.length cd, .bool y.bad] 62))
  clear hwA HS
  generalize w.heap.size = xb at *
  go_wp2_with fail
  refine (rhalf_any cn H1.out (by omega)).mono ?_
  rintro e w2 ⟨A2, c2, rfl, S2⟩
  have H2 := Lib.hid S2
  clear S2 H1
  go_wp2_with fail
  refine (rhalf_any hn H2.out (by omega)).mono ?_
  rintro e w3 ⟨A3, c3, rfl, S3⟩
  have H3 := Lib.hid S3
  clear S3 H2
  go_wp2_with (first
    | (at_builtin; refine wpList_appS rfl _ _ _ rfl bElem _ 2 _ rfl H3.out.s1 w3.heap.size A3 2 c3 (Lib.byteCells (halfL hn)) rfl H3.out.at_ rfl (byteCells_one _) (by unfold maxLen; omega) (by omega) ?_
       intro A4 c4 w4 S4
       have H4 := Lib.hid S4
       clear S4 H3
       obtain ⟨L, K, z⟩ := H4.out.s2.look)
    | (at_builtin; refine wpList_pushS rfl _ _ _ rfl bElem w4 [.int .u8 y.r, .int .u8 (y.key.length : Int)] 2 rfl rfl (by simp [Value.oneCell']) _ (2 + 2) _ rfl rfl H4.out (by unfold maxLen; omega) (by omega) ?_
       intro A5 c5 w5 S5
       have H5 := Lib.hid S5
       clear S5 H4 L K z
       obtain ⟨L, K, z⟩ := H5.out.s2.look))
  refine (rhalf_any y.data.length H5.out (by omega)).mono ?_
  rintro e w6 ⟨A6, c6, rfl, S6⟩
  have H6 := Lib.hid S6
  clear S6 H5 L K z
  go_wp2_with (at_builtin; refine wpList_appS rfl _ _ _ rfl bElem _ (2 + 2 + 2) _ rfl H6.out.s1 w6.heap.size A6 2 c6 (Lib.byteCells (halfL y.data.length)) rfl H6.out.at_ rfl (byteCells_one _) (by unfold maxLen; omega) (by omega) ?_
               intro A7 c7 w7 S7
               rw [HCA.out] at S7
               have H7 := Lib.hid S7
               clear S7 H6)
  go_ret
  exact ⟨A7, c7, rfl, H7.out.s1.drop.s1.drop.s1.drop⟩
end
section
variable {W w : World} {F : List SA} {x : Nat} {s : DK}
set_option maxRecDepth 100000 in
set_option maxHeartbeats 16000000 in
theorem qread18_any (h : s.ok) (S : SL W (qdiskS x s :: F) w) : Calls Tryz.prog 36 #[.pointer (some ⟨x, 0, none⟩), .int .i64 18] w (RetQ W F x (dkCount s)) := by
  have hhl := h.here_lt
  have hnx := h.nx
  have HCY := Lib.hid (show s.cyl ≤ 64 ∧ s.head ≤ 8 by have := h.cy; have := h.c1; have := h.hd; have := h.h1; omega)
  have HDK := Lib.hid (show dkCount s = match s.recs[s.next]? with
    | none => dkCheck s 2
    | some x => dkDone s (cntL s.cyl s.head x) from rfl)
  obtain ⟨tb, old, a, n, vs, A0, c0, hv0, hva, hvz, hlc, hcm, S1⟩ := selQ_open h S; have HS := Lib.hid S1; have HV := Lib.hid hv0; have HVZ := Lib.hid (And.intro hva hvz); have HH := Lib.hid h; have hrl := h.rl; clear S S1 h hv0 hva hvz
  (go_enter Tryz.func36, Tryz.ntmps36; go_upto_region 1 with fail; refine name_world (P := Code.wp _ _ _ _) ?_; intro wA hwA; have H1 := Lib.hid (SL.cast hwA (HS.out.allocC #[.slice none 0 0, .int .i64 0, .int .i64 0] 53)); clear hwA HS; generalize w.heap.size = rb at *)
  obtain ⟨L, K, z⟩ := H1.out.s1.look
  obtain ⟨L2, K2, z2⟩ := H1.out.s2.look
  have hqv := (L2 s.here).trans HVZ.out.1
  have hhi : (s.here : Int) < (s.tracks.length : Int) := by omega
  have HX := Lib.hid (fun (wx : World) (hx : Below wA.heap.size wA wx) => (⟨(hx.cell (p := ⟨x, 3, none⟩) z).trans (L 3), (hx.cell (p := ⟨tb, s.here, none⟩) z2).trans hqv⟩ : wx.cell? ⟨x, 3, none⟩ = some (.slice (some ⟨tb, 0, none⟩) s.tracks.length s.tracks.length) ∧ wx.cell? ⟨tb, s.here, none⟩ = some (.slice A0 s.recs.length c0)))
  have HC := Lib.hid (fun (wx : World) (hx : Below wA.heap.size wA wx) => qhere_b HH.out (H1.out.s1.grow hx))
  clear L K z L2 K2 z2 hqv
  refine wp_region_quiet (C := Below wA.heap.size wA) (by kernel_rfl) (by kernel_rfl) (Below.refl _ _).drew ?_
  (repeat (with_reducible refine wpQuiet_step ?_; intro K hK; go_simp; first | (with_reducible refine hK _ ?_; clear hK K) | (rw [if_neg (by decide)]; with_reducible refine hK _ ?_; clear hK K) | (refine ⟨_, fun wx hx => (by obtain ⟨f0, f1⟩ := HX.out wx hx; go_simp; with_reducible rfl), hK _ ?_⟩; clear hK K) | (refine ⟨_, fun wx hx => (by with_reducible refine (HC.out wx hx).mono ?_; rintro e w' ⟨rfl, h2⟩; exact ⟨rfl, hx.trans (h2.mono hx.size)⟩), hK _ ?_⟩; clear hK K) | (refine ⟨_, fun _ _ => rfl, hK _ ?_⟩; clear hK K))); with_reducible refine wpQuiet_nil ?_
  intro w1 b1
  have H2 := Lib.hid (H1.out.grow b1)
  clear b1 H1 HX HC
  obtain ⟨L, K, z⟩ := H2.out.s1.look
  by_cases hlt : s.next < s.recs.length
  · have hy : s.recs[s.next]? = some s.recs[s.next] := List.getElem?_eq_getElem hlt
    have hyr := valid_rec HH.out.rv hy
    generalize s.recs[s.next] = y at hy hyr
    have HY := Lib.hid hyr
    have HDY := Lib.hid (show dkCount s = dkDone s (cntL s.cyl s.head y) by rw [HDK.out, hy])
    obtain ⟨P, g, off, ck, cd, Ak, Ad, hA, SP, hback, hrec⟩ := recQ_sel HVZ.out.2 hy H2.out.s3
    subst hA
    have HB := Lib.hid (And.intro hback hrec)
    have HSP := Lib.hid SP
    obtain ⟨k0, k1, k2, k3, _, _⟩ := hrec _ _ SP
    have t1 : ((s.recs.length : Int) ≤ (s.next : Int)) = False := eq_false (by omega)
    have t2 : (s.next : Int) < (s.recs.length : Int) := by omega
    clear hy hyr hback hrec SP HDK hlt
    go_upto_region 5 with fail
    refine name_world (P := Code.wp _ _ _ _) ?_
    intro w3 hw3
    -- box, P, reply, disk, slices, last
    have H3 := Lib.hid (SL.cast hw3 (HSP.out.allocC #[.int .i64 y.r, .slice Ak y.key.length ck, .slice Ad y.data.length cd, .bool y.bad] 62))
    clear hw3 HSP k0 k1 k2 k3 L K z H2
    generalize w1.heap.size = xb at *
    obtain ⟨L, K, z⟩ := H3.out.s3.look
    obtain ⟨L2, K2, z2⟩ := H3.out.look
    have HX := Lib.hid (fun (wx : World) (hx : Below w3.heap.size w3 wx) => (⟨(hx.cell (p := ⟨x, 4, none⟩) z).trans (L 4), (hx.cell (p := ⟨x, 5, none⟩) z).trans (L 5), (hx.cell (p := ⟨xb, 0, none⟩) z2).trans (L2 0), (hx.cell (p := ⟨xb, 1, none⟩) z2).trans (L2 1), (hx.cell (p := ⟨xb, 2, none⟩) z2).trans (L2 2), (hx.cell (p := ⟨xb, 3, none⟩) z2).trans (L2 3)⟩ :
      wx.cell? ⟨x, 4, none⟩ = some (.int .i64 (s.cyl : Int)) ∧ wx.cell? ⟨x, 5, none⟩ = some (.int .i64 (s.head : Int)) ∧ wx.cell? ⟨xb, 0, none⟩ = some (.int .i64 y.r) ∧ wx.cell? ⟨xb, 1, none⟩ = some (.slice Ak y.key.length ck) ∧ wx.cell? ⟨xb, 2, none⟩ = some (.slice Ad y.data.length cd) ∧ wx.cell? ⟨xb, 3, none⟩ = some (.bool y.bad)))
    clear L K z L2 K2 z2
    refine wp_region_order (fun wx => Below w3.heap.size w3 wx) [0, 1, 2, 4, 5, 6] [3, 7, 8] [] [9, 10] [] (by kernel_rfl) (by kernel_rfl) (Below.refl _ _).drew (by intro c a d v w h; cases d <;> exact h) ?_
    simp only [pick, List.filterMap_cons, List.filterMap_nil, List.getElem?_cons_zero, List.getElem?_cons_succ]
    (repeat (with_reducible refine wpPure_step ?_; intro K hK; go_simp; with_reducible refine hK _ ?_; clear hK K))
    refine wpPure_nil ?_
    (repeat (with_reducible refine wpLoads_step ?_; intro K hK; go_simp; first | (with_reducible refine hK _ ?_; clear hK K) | (rw [if_neg (by decide)]; with_reducible refine hK _ ?_; clear hK K) | (refine ⟨_, fun wx hx => (by obtain ⟨f0, f1, f2, f3, f4, f5⟩ := HX.out wx hx; go_simp; with_reducible rfl), hK _ ?_⟩; clear hK K) | (refine ⟨_, fun _ _ => rfl, hK _ ?_⟩; clear hK K))); with_reducible refine wpLoads_nil ?_
    refine wpQuiet_nil ?_
    intro wq hwq
    have BQ := Lib.hid hwq
    clear hwq HX
    (with_reducible refine wpKeep_step ?_; intro K hK; go_simp)
    refine (qcount_any s.cyl s.head y Ak Ad ck cd HCY.out.1 HCY.out.2 HY.out (SL.start wq)).mono ?_
    rintro e w4 ⟨A5, c5, rfl, S4⟩
    have B4 := Lib.hid (BQ.out.trans (S4.below.mono BQ.out.size))
    have H5 := Lib.hid ((H3.out.grow BQ.out).join S4)
    refine hK _ _ B4.out ?_
    clear hK K S4 H3
    (with_reducible refine wpKeep_step ?_; intro K hK; go_simp; first | (with_reducible refine hK _ _ (B4.out) ?_; clear hK K) | (rw [if_neg (by decide)]; with_reducible refine hK _ _ (B4.out) ?_; clear hK K))
    refine wpKeep_nil ?_
    clear B4 BQ
    -- count, box, P, reply, disk, slices, last
    have hcl : (cntL s.cyl s.head y).length = 8 := cntL_len _ _ _
    have HCL := Lib.hid hcl
    clear hcl
    go_wp2_with fail
    refine (good_any _ _ _ _).mono ?_
    rintro e w9 ⟨rfl, b9⟩
    have H9 := Lib.hid ((H5.out.grow b9).s3)
    clear b9 H5
    (obtain ⟨L, K, z⟩ := H9.out.look; go_wp2; refine bodyPost_ret (v := .agg #[.slice A5 8 c5, .int .i64 12, .int .i64 0]) (by simp [results, Tryz.results36, go_sem, L]) rfl ?_)
    rw [HDY.out]
    -- reply, count, box, P, disk, slices, last
    refine ⟨A5, c5, by dsimp only [dkDone]; rw [HCL.out]; rfl, ?_⟩
    show SL W (rowS 5 1 (.slice A5 (cntL s.cyl s.head y).length c5) (cntL s.cyl s.head y).length (Lib.byteCells (cntL s.cyl s.head y)) :: qdiskS x s :: F) _
    rw [HCL.out]
    exact (selQ_close rfl HV.out (HB.out.1 _ _ (H9.out.set3.drop.s1.drop.s1)).s1.b4.b2).s1
  · have hn : s.recs[s.next]? = none := List.getElem?_eq_none (by omega)
    have HR := Lib.hid (show dkCount s = dkCheck s 2 by rw [HDK.out, hn])
    have t1 : ((s.recs.length : Int) ≤ (s.next : Int)) = True := eq_true (by omega)
    clear hn hlt HDK
    go_wp2_with fail
    (refine (fail_any 2 H2.out.s1).mono ?_; rintro e w9 ⟨rfl, S9⟩; have H9 := Lib.hid S9.s1; clear S9; (obtain ⟨L, K, z⟩ := H9.out.look; go_wp2; refine bodyPost_ret (v := .agg #[.slice none 0 0, .int .i64 14, .int .i64 2]) (by simp [results, Tryz.results36, go_sem, L]) rfl ?_); rw [HR.out]; exact RetQ.of (selQ_close rfl HV.out H9.out.set3.drop))
set_option maxRecDepth 100000 in
set_option maxHeartbeats 16000000 in
theorem qread6_any (h : s.ok) (S : SL W (qdiskS x s :: F) w) : Calls Tryz.prog 36 #[.pointer (some ⟨x, 0, none⟩), .int .i64 6] w (RetQ W F x (dkRead s false false)) := by
  have hhl := h.here_lt
  have hnx := h.nx
  have HCY := Lib.hid (show s.cyl ≤ 64 ∧ s.head ≤ 8 by have := h.cy; have := h.c1; have := h.hd; have := h.h1; omega)
  have HDK := Lib.hid (show dkRead s false false = match s.recs[s.next]? with
    | none => dkCheck s 2
    | some x => if x.bad then dkCheck { s with next := s.next + 1 } 8 else dkDone { s with next := s.next + 1 } (x.data) from rfl)
  obtain ⟨tb, old, a, n, vs, A0, c0, hv0, hva, hvz, hlc, hcm, S1⟩ := selQ_open h S; have HS := Lib.hid S1; have HV := Lib.hid hv0; have HVZ := Lib.hid (And.intro hva hvz); have HH := Lib.hid h; have hrl := h.rl; clear S S1 h hv0 hva hvz
  (go_enter Tryz.func36, Tryz.ntmps36; go_upto_region 1 with fail; refine name_world (P := Code.wp _ _ _ _) ?_; intro wA hwA; have H1 := Lib.hid (SL.cast hwA (HS.out.allocC #[.slice none 0 0, .int .i64 0, .int .i64 0] 53)); clear hwA HS; generalize w.heap.size = rb at *)
  obtain ⟨L, K, z⟩ := H1.out.s1.look
  obtain ⟨L2, K2, z2⟩ := H1.out.s2.look
  have hqv := (L2 s.here).trans HVZ.out.1
  have hhi : (s.here : Int) < (s.tracks.length : Int) := by omega
  have HX := Lib.hid (fun (wx : World) (hx : Below wA.heap.size wA wx) => (⟨(hx.cell (p := ⟨x, 3, none⟩) z).trans (L 3), (hx.cell (p := ⟨tb, s.here, none⟩) z2).trans hqv⟩ : wx.cell? ⟨x, 3, none⟩ = some (.slice (some ⟨tb, 0, none⟩) s.tracks.length s.tracks.length) ∧ wx.cell? ⟨tb, s.here, none⟩ = some (.slice A0 s.recs.length c0)))
  have HC := Lib.hid (fun (wx : World) (hx : Below wA.heap.size wA wx) => qhere_b HH.out (H1.out.s1.grow hx))
  clear L K z L2 K2 z2 hqv
  refine wp_region_quiet (C := Below wA.heap.size wA) (by kernel_rfl) (by kernel_rfl) (Below.refl _ _).drew ?_
  (repeat (with_reducible refine wpQuiet_step ?_; intro K hK; go_simp; first | (with_reducible refine hK _ ?_; clear hK K) | (rw [if_neg (by decide)]; with_reducible refine hK _ ?_; clear hK K) | (refine ⟨_, fun wx hx => (by obtain ⟨f0, f1⟩ := HX.out wx hx; go_simp; with_reducible rfl), hK _ ?_⟩; clear hK K) | (refine ⟨_, fun wx hx => (by with_reducible refine (HC.out wx hx).mono ?_; rintro e w' ⟨rfl, h2⟩; exact ⟨rfl, hx.trans (h2.mono hx.size)⟩), hK _ ?_⟩; clear hK K) | (refine ⟨_, fun _ _ => rfl, hK _ ?_⟩; clear hK K))); with_reducible refine wpQuiet_nil ?_
  intro w1 b1
  have H2 := Lib.hid (H1.out.grow b1)
  clear b1 H1 HX HC
  obtain ⟨L, K, z⟩ := H2.out.s1.look
  by_cases hlt : s.next < s.recs.length
  · have hy : s.recs[s.next]? = some s.recs[s.next] := List.getElem?_eq_getElem hlt
    have hyr := valid_rec HH.out.rv hy
    generalize s.recs[s.next] = y at hy hyr
    have HY := Lib.hid hyr
    have HDY := Lib.hid (show dkRead s false false = if y.bad then dkCheck { s with next := s.next + 1 } 8 else dkDone { s with next := s.next + 1 } (y.data) by rw [HDK.out, hy])
    obtain ⟨P, g, off, ck, cd, Ak, Ad, hA, SP, hback, hrec⟩ := recQ_sel HVZ.out.2 hy H2.out.s3
    subst hA
    have HB := Lib.hid (And.intro hback hrec)
    have HSP := Lib.hid SP
    obtain ⟨k0, k1, k2, k3, _, _⟩ := hrec _ _ SP
    have t1 : ((s.recs.length : Int) ≤ (s.next : Int)) = False := eq_false (by omega)
    have t2 : (s.next : Int) < (s.recs.length : Int) := by omega
    clear hy hyr hback hrec SP HDK hlt
    go_upto_region 5 with fail
    refine name_world (P := Code.wp _ _ _ _) ?_
    intro w3 hw3
    -- box, P, reply, disk, slices, last
    have H3 := Lib.hid (SL.cast hw3 (HSP.out.allocC #[.int .i64 y.r, .slice Ak y.key.length ck, .slice Ad y.data.length cd, .bool y.bad] 62))
    clear hw3 HSP k0 k1 k2 k3 L K z H2
    generalize w1.heap.size = xb at *
    obtain ⟨L, K, z⟩ := H3.out.s3.look
    obtain ⟨L2, K2, z2⟩ := H3.out.look
    have HX := Lib.hid (fun (wx : World) (hx : Below w3.heap.size w3 wx) => (⟨(hx.cell (p := ⟨x, 4, none⟩) z).trans (L 4), (hx.cell (p := ⟨x, 5, none⟩) z).trans (L 5), (hx.cell (p := ⟨xb, 0, none⟩) z2).trans (L2 0), (hx.cell (p := ⟨xb, 1, none⟩) z2).trans (L2 1), (hx.cell (p := ⟨xb, 2, none⟩) z2).trans (L2 2), (hx.cell (p := ⟨xb, 3, none⟩) z2).trans (L2 3)⟩ :
      wx.cell? ⟨x, 4, none⟩ = some (.int .i64 (s.cyl : Int)) ∧ wx.cell? ⟨x, 5, none⟩ = some (.int .i64 (s.head : Int)) ∧ wx.cell? ⟨xb, 0, none⟩ = some (.int .i64 y.r) ∧ wx.cell? ⟨xb, 1, none⟩ = some (.slice Ak y.key.length ck) ∧ wx.cell? ⟨xb, 2, none⟩ = some (.slice Ad y.data.length cd) ∧ wx.cell? ⟨xb, 3, none⟩ = some (.bool y.bad)))
    clear L K z L2 K2 z2
    refine wp_region_order (fun wx => Below w3.heap.size w3 wx) [0, 1, 2, 4, 5, 6] [3, 7, 8] [] [9, 10] [] (by kernel_rfl) (by kernel_rfl) (Below.refl _ _).drew (by intro c a d v w h; cases d <;> exact h) ?_
    simp only [pick, List.filterMap_cons, List.filterMap_nil, List.getElem?_cons_zero, List.getElem?_cons_succ]
    (repeat (with_reducible refine wpPure_step ?_; intro K hK; go_simp; with_reducible refine hK _ ?_; clear hK K))
    refine wpPure_nil ?_
    (repeat (with_reducible refine wpLoads_step ?_; intro K hK; go_simp; first | (with_reducible refine hK _ ?_; clear hK K) | (rw [if_neg (by decide)]; with_reducible refine hK _ ?_; clear hK K) | (refine ⟨_, fun wx hx => (by obtain ⟨f0, f1, f2, f3, f4, f5⟩ := HX.out wx hx; go_simp; with_reducible rfl), hK _ ?_⟩; clear hK K) | (refine ⟨_, fun _ _ => rfl, hK _ ?_⟩; clear hK K))); with_reducible refine wpLoads_nil ?_
    refine wpQuiet_nil ?_
    intro wq hwq
    have BQ := Lib.hid hwq
    clear hwq HX
    (with_reducible refine wpKeep_step ?_; intro K hK; go_simp)
    refine (qcount_any s.cyl s.head y Ak Ad ck cd HCY.out.1 HCY.out.2 HY.out (SL.start wq)).mono ?_
    rintro e w4 ⟨A5, c5, rfl, S4⟩
    have B4 := Lib.hid (BQ.out.trans (S4.below.mono BQ.out.size))
    have H5 := Lib.hid ((H3.out.grow BQ.out).join S4)
    refine hK _ _ B4.out ?_
    clear hK K S4 H3
    (with_reducible refine wpKeep_step ?_; intro K hK; go_simp; first | (with_reducible refine hK _ _ (B4.out) ?_; clear hK K) | (rw [if_neg (by decide)]; with_reducible refine hK _ _ (B4.out) ?_; clear hK K))
    refine wpKeep_nil ?_
    clear B4 BQ
    -- count, box, P, reply, disk, slices, last
    have hcl : (cntL s.cyl s.head y).length = 8 := cntL_len _ _ _
    have HCL := Lib.hid hcl
    clear hcl
    obtain ⟨L, K, z⟩ := H5.out.s4.look
    go_upto_region 9 with fail
    refine name_world (P := Code.wp _ _ _ _) ?_
    intro w6 hw6
    -- disk, count, box, P, reply, slices, last
    have H6 := Lib.hid (SL.cast hw6 (H5.out.s4.set (off := 6) (v := .int .i64 ((s.next : Int) + 1)) (cs' := qCells { s with next := s.next + 1 } tb s.last.isSome old a n) rfl))
    clear hw6 H5 L K z
    have hcls : ∀ (G : List SA) (s2 : DK) (w' : World), s2.tracks = s.tracks → s2.last = s.last → SL W (cel x (qCells s2 tb s.last.isSome old a n) 40 :: P :: cel tb vs.toArray 35 :: lastQ old a n s.last :: G) w' → SL W (qdiskS x s2 :: G) w' := fun G s2 w' e1 e2 S' => by
      have h := (HB.out.1 _ _ S'.s1).b2
      rw [← e1, ← e2] at h
      exact selQ_close rfl (by rw [e1]; exact HV.out) h
    have HCS := Lib.hid hcls
    clear hcls
    obtain ⟨L, K, z⟩ := H6.out.s2.look
    cases hbad : y.bad with
    | true =>
      have HR := Lib.hid (show dkRead s false false = dkCheck { s with next := s.next + 1 } 8 by rw [HDY.out, hbad]; rfl)
      have k5 : w6.cell? ⟨xb, 3, none⟩ = some (.bool true) := by rw [← hbad]; exact L 3
      clear hbad L
      go_wp2_with fail
      refine (fail_any 8 H6.out).mono ?_
      rintro e w9 ⟨rfl, S9⟩
      have H9 := Lib.hid S9.s4
      clear S9
      (obtain ⟨L, K, z⟩ := H9.out.look; go_wp2; refine bodyPost_ret (v := .agg #[.slice none 0 0, .int .i64 14, .int .i64 8]) (by simp [results, Tryz.results36, go_sem, L]) rfl ?_)
      rw [HR.out]
      -- reply, disk, count, box, P, slices, last
      exact RetQ.of (HCS.out _ { s with next := s.next + 1, sense := 8 } _ rfl rfl H9.out.set3.drop.s1.drop.s1.drop)
    | false =>
      have HR := Lib.hid (show dkRead s false false = dkDone { s with next := s.next + 1 } (y.data) by rw [HDY.out, hbad]; rfl)
      have k5 : w6.cell? ⟨xb, 3, none⟩ = some (.bool false) := by rw [← hbad]; exact L 3
      obtain ⟨hr1, hr2, hr3, hr4⟩ := HY.out
      have H7 := Lib.hid (show SL W (rowS 5 1 (.slice none 0 0) 0 [] :: _) w6 from H6.out.nil _ _)
      clear hbad L H6
      obtain ⟨L, K, z⟩ := H7.out.s3.look
      go_wp2_with (first
        | (at_builtin; refine wpList_appS rfl _ _ _ rfl bElem _ (0) _ rfl H7.out w6.heap.size Ad y.data.length cd (Lib.byteCells y.data) rfl (HB.out.2 _ _ H7.out.s4).2.2.2.2.2.1 (by rw [byteCells_len, Nat.mul_one]) (byteCells_one _) (by unfold maxLen; omega) (by omega) ?_
           intro B8 d8 w8 S8
           rw [Nat.zero_add, List.nil_append] at S8
           rw [Nat.zero_add]
           have H8 := Lib.hid S8
           clear S8 H7 K z
           obtain ⟨L, K, z⟩ := H8.out.s3.look))
      refine (good_any _ _ _ _).mono ?_
      rintro e w29 ⟨rfl, b9⟩
      -- out, disk, count, box, P, reply, slices, last
      have H29 := Lib.hid ((H8.out.grow b9).s5)
      clear b9 H8 L K z
      obtain ⟨L, K, z⟩ := H29.out.look
      go_wp2
      refine bodyPost_ret (by simp [results, Tryz.results36, go_sem, L]; rfl) rfl ?_
      rw [HR.out]
      -- reply, out, disk, count, box, P, slices, last
      refine ⟨B8, d8, congrArg (fun m => Ending.returned (.agg #[.slice B8 m d8, .int .i64 12, .int .i64 0])) (show _ = (y.data).length by rfl), ?_⟩
      show SL W (rowS 5 1 (.slice B8 (y.data).length d8) (y.data).length (Lib.byteCells (y.data)) :: qdiskS x { s with next := s.next + 1 } :: F) _
      exact (HCS.out _ { s with next := s.next + 1 } _ rfl rfl H29.out.set3.drop.s1.s2.drop.s2.drop.s1.b4).s1
  · have hn : s.recs[s.next]? = none := List.getElem?_eq_none (by omega)
    have HR := Lib.hid (show dkRead s false false = dkCheck s 2 by rw [HDK.out, hn])
    have t1 : ((s.recs.length : Int) ≤ (s.next : Int)) = True := eq_true (by omega)
    clear hn hlt HDK
    go_wp2_with fail
    (refine (fail_any 2 H2.out.s1).mono ?_; rintro e w9 ⟨rfl, S9⟩; have H9 := Lib.hid S9.s1; clear S9; (obtain ⟨L, K, z⟩ := H9.out.look; go_wp2; refine bodyPost_ret (v := .agg #[.slice none 0 0, .int .i64 14, .int .i64 2]) (by simp [results, Tryz.results36, go_sem, L]) rfl ?_); rw [HR.out]; exact RetQ.of (selQ_close rfl HV.out H9.out.set3.drop))
set_option maxRecDepth 100000 in
set_option maxHeartbeats 16000000 in
theorem qread14_any (h : s.ok) (S : SL W (qdiskS x s :: F) w) : Calls Tryz.prog 36 #[.pointer (some ⟨x, 0, none⟩), .int .i64 14] w (RetQ W F x (dkRead s false true)) := by
  have hhl := h.here_lt
  have hnx := h.nx
  have HCY := Lib.hid (show s.cyl ≤ 64 ∧ s.head ≤ 8 by have := h.cy; have := h.c1; have := h.hd; have := h.h1; omega)
  have HDK := Lib.hid (show dkRead s false true = match s.recs[s.next]? with
    | none => dkCheck s 2
    | some x => if x.bad then dkCheck { s with next := s.next + 1 } 8 else dkDone { s with next := s.next + 1 } (x.key ++ x.data) from rfl)
  obtain ⟨tb, old, a, n, vs, A0, c0, hv0, hva, hvz, hlc, hcm, S1⟩ := selQ_open h S; have HS := Lib.hid S1; have HV := Lib.hid hv0; have HVZ := Lib.hid (And.intro hva hvz); have HH := Lib.hid h; have hrl := h.rl; clear S S1 h hv0 hva hvz
  (go_enter Tryz.func36, Tryz.ntmps36; go_upto_region 1 with fail; refine name_world (P := Code.wp _ _ _ _) ?_; intro wA hwA; have H1 := Lib.hid (SL.cast hwA (HS.out.allocC #[.slice none 0 0, .int .i64 0, .int .i64 0] 53)); clear hwA HS; generalize w.heap.size = rb at *)
  obtain ⟨L, K, z⟩ := H1.out.s1.look
  obtain ⟨L2, K2, z2⟩ := H1.out.s2.look
  have hqv := (L2 s.here).trans HVZ.out.1
  have hhi : (s.here : Int) < (s.tracks.length : Int) := by omega
  have HX := Lib.hid (fun (wx : World) (hx : Below wA.heap.size wA wx) => (⟨(hx.cell (p := ⟨x, 3, none⟩) z).trans (L 3), (hx.cell (p := ⟨tb, s.here, none⟩) z2).trans hqv⟩ : wx.cell? ⟨x, 3, none⟩ = some (.slice (some ⟨tb, 0, none⟩) s.tracks.length s.tracks.length) ∧ wx.cell? ⟨tb, s.here, none⟩ = some (.slice A0 s.recs.length c0)))
  have HC := Lib.hid (fun (wx : World) (hx : Below wA.heap.size wA wx) => qhere_b HH.out (H1.out.s1.grow hx))
  clear L K z L2 K2 z2 hqv
  refine wp_region_quiet (C := Below wA.heap.size wA) (by kernel_rfl) (by kernel_rfl) (Below.refl _ _).drew ?_
  (repeat (with_reducible refine wpQuiet_step ?_; intro K hK; go_simp; first | (with_reducible refine hK _ ?_; clear hK K) | (rw [if_neg (by decide)]; with_reducible refine hK _ ?_; clear hK K) | (refine ⟨_, fun wx hx => (by obtain ⟨f0, f1⟩ := HX.out wx hx; go_simp; with_reducible rfl), hK _ ?_⟩; clear hK K) | (refine ⟨_, fun wx hx => (by with_reducible refine (HC.out wx hx).mono ?_; rintro e w' ⟨rfl, h2⟩; exact ⟨rfl, hx.trans (h2.mono hx.size)⟩), hK _ ?_⟩; clear hK K) | (refine ⟨_, fun _ _ => rfl, hK _ ?_⟩; clear hK K))); with_reducible refine wpQuiet_nil ?_
  intro w1 b1
  have H2 := Lib.hid (H1.out.grow b1)
  clear b1 H1 HX HC
  obtain ⟨L, K, z⟩ := H2.out.s1.look
  by_cases hlt : s.next < s.recs.length
  · have hy : s.recs[s.next]? = some s.recs[s.next] := List.getElem?_eq_getElem hlt
    have hyr := valid_rec HH.out.rv hy
    generalize s.recs[s.next] = y at hy hyr
    have HY := Lib.hid hyr
    have HDY := Lib.hid (show dkRead s false true = if y.bad then dkCheck { s with next := s.next + 1 } 8 else dkDone { s with next := s.next + 1 } (y.key ++ y.data) by rw [HDK.out, hy])
    obtain ⟨P, g, off, ck, cd, Ak, Ad, hA, SP, hback, hrec⟩ := recQ_sel HVZ.out.2 hy H2.out.s3
    subst hA
    have HB := Lib.hid (And.intro hback hrec)
    have HSP := Lib.hid SP
    obtain ⟨k0, k1, k2, k3, _, _⟩ := hrec _ _ SP
    have t1 : ((s.recs.length : Int) ≤ (s.next : Int)) = False := eq_false (by omega)
    have t2 : (s.next : Int) < (s.recs.length : Int) := by omega
    clear hy hyr hback hrec SP HDK hlt
    go_upto_region 5 with fail
    refine name_world (P := Code.wp _ _ _ _) ?_
    intro w3 hw3
    -- box, P, reply, disk, slices, last
    have H3 := Lib.hid (SL.cast hw3 (HSP.out.allocC #[.int .i64 y.r, .slice Ak y.key.length ck, .slice Ad y.data.length cd, .bool y.bad] 62))
    clear hw3 HSP k0 k1 k2 k3 L K z H2
    generalize w1.heap.size = xb at *
    obtain ⟨L, K, z⟩ := H3.out.s3.look
    obtain ⟨L2, K2, z2⟩ := H3.out.look
    have HX := Lib.hid (fun (wx : World) (hx : Below w3.heap.size w3 wx) => (⟨(hx.cell (p := ⟨x, 4, none⟩) z).trans (L 4), (hx.cell (p := ⟨x, 5, none⟩) z).trans (L 5), (hx.cell (p := ⟨xb, 0, none⟩) z2).trans (L2 0), (hx.cell (p := ⟨xb, 1, none⟩) z2).trans (L2 1), (hx.cell (p := ⟨xb, 2, none⟩) z2).trans (L2 2), (hx.cell (p := ⟨xb, 3, none⟩) z2).trans (L2 3)⟩ :
      wx.cell? ⟨x, 4, none⟩ = some (.int .i64 (s.cyl : Int)) ∧ wx.cell? ⟨x, 5, none⟩ = some (.int .i64 (s.head : Int)) ∧ wx.cell? ⟨xb, 0, none⟩ = some (.int .i64 y.r) ∧ wx.cell? ⟨xb, 1, none⟩ = some (.slice Ak y.key.length ck) ∧ wx.cell? ⟨xb, 2, none⟩ = some (.slice Ad y.data.length cd) ∧ wx.cell? ⟨xb, 3, none⟩ = some (.bool y.bad)))
    clear L K z L2 K2 z2
    refine wp_region_order (fun wx => Below w3.heap.size w3 wx) [0, 1, 2, 4, 5, 6] [3, 7, 8] [] [9, 10] [] (by kernel_rfl) (by kernel_rfl) (Below.refl _ _).drew (by intro c a d v w h; cases d <;> exact h) ?_
    simp only [pick, List.filterMap_cons, List.filterMap_nil, List.getElem?_cons_zero, List.getElem?_cons_succ]
    (repeat (with_reducible refine wpPure_step ?_; intro K hK; go_simp; with_reducible refine hK _ ?_; clear hK K))
    refine wpPure_nil ?_
    (repeat (with_reducible refine wpLoads_step ?_; intro K hK; go_simp; first | (with_reducible refine hK _ ?_; clear hK K) | (rw [if_neg (by decide)]; with_reducible refine hK _ ?_; clear hK K) | (refine ⟨_, fun wx hx => (by obtain ⟨f0, f1, f2, f3, f4, f5⟩ := HX.out wx hx; go_simp; with_reducible rfl), hK _ ?_⟩; clear hK K) | (refine ⟨_, fun _ _ => rfl, hK _ ?_⟩; clear hK K))); with_reducible refine wpLoads_nil ?_
    refine wpQuiet_nil ?_
    intro wq hwq
    have BQ := Lib.hid hwq
    clear hwq HX
    (with_reducible refine wpKeep_step ?_; intro K hK; go_simp)
    refine (qcount_any s.cyl s.head y Ak Ad ck cd HCY.out.1 HCY.out.2 HY.out (SL.start wq)).mono ?_
    rintro e w4 ⟨A5, c5, rfl, S4⟩
    have B4 := Lib.hid (BQ.out.trans (S4.below.mono BQ.out.size))
    have H5 := Lib.hid ((H3.out.grow BQ.out).join S4)
    refine hK _ _ B4.out ?_
    clear hK K S4 H3
    (with_reducible refine wpKeep_step ?_; intro K hK; go_simp; first | (with_reducible refine hK _ _ (B4.out) ?_; clear hK K) | (rw [if_neg (by decide)]; with_reducible refine hK _ _ (B4.out) ?_; clear hK K))
    refine wpKeep_nil ?_
    clear B4 BQ
    -- count, box, P, reply, disk, slices, last
    have hcl : (cntL s.cyl s.head y).length = 8 := cntL_len _ _ _
    have HCL := Lib.hid hcl
    clear hcl
    obtain ⟨L, K, z⟩ := H5.out.s4.look
    go_upto_region 9 with fail
    refine name_world (P := Code.wp _ _ _ _) ?_
    intro w6 hw6
    -- disk, count, box, P, reply, slices, last
    have H6 := Lib.hid (SL.cast hw6 (H5.out.s4.set (off := 6) (v := .int .i64 ((s.next : Int) + 1)) (cs' := qCells { s with next := s.next + 1 } tb s.last.isSome old a n) rfl))
    clear hw6 H5 L K z
    have hcls : ∀ (G : List SA) (s2 : DK) (w' : World), s2.tracks = s.tracks → s2.last = s.last → SL W (cel x (qCells s2 tb s.last.isSome old a n) 40 :: P :: cel tb vs.toArray 35 :: lastQ old a n s.last :: G) w' → SL W (qdiskS x s2 :: G) w' := fun G s2 w' e1 e2 S' => by
      have h := (HB.out.1 _ _ S'.s1).b2
      rw [← e1, ← e2] at h
      exact selQ_close rfl (by rw [e1]; exact HV.out) h
    have HCS := Lib.hid hcls
    clear hcls
    obtain ⟨L, K, z⟩ := H6.out.s2.look
    cases hbad : y.bad with
    | true =>
      have HR := Lib.hid (show dkRead s false true = dkCheck { s with next := s.next + 1 } 8 by rw [HDY.out, hbad]; rfl)
      have k5 : w6.cell? ⟨xb, 3, none⟩ = some (.bool true) := by rw [← hbad]; exact L 3
      clear hbad L
      go_wp2_with fail
      refine (fail_any 8 H6.out).mono ?_
      rintro e w9 ⟨rfl, S9⟩
      have H9 := Lib.hid S9.s4
      clear S9
      (obtain ⟨L, K, z⟩ := H9.out.look; go_wp2; refine bodyPost_ret (v := .agg #[.slice none 0 0, .int .i64 14, .int .i64 8]) (by simp [results, Tryz.results36, go_sem, L]) rfl ?_)
      rw [HR.out]
      -- reply, disk, count, box, P, slices, last
      exact RetQ.of (HCS.out _ { s with next := s.next + 1, sense := 8 } _ rfl rfl H9.out.set3.drop.s1.drop.s1.drop)
    | false =>
      have HR := Lib.hid (show dkRead s false true = dkDone { s with next := s.next + 1 } (y.key ++ y.data) by rw [HDY.out, hbad]; rfl)
      have k5 : w6.cell? ⟨xb, 3, none⟩ = some (.bool false) := by rw [← hbad]; exact L 3
      obtain ⟨hr1, hr2, hr3, hr4⟩ := HY.out
      have H7 := Lib.hid (show SL W (rowS 5 1 (.slice none 0 0) 0 [] :: _) w6 from H6.out.nil _ _)
      clear hbad L H6
      have HOU := Lib.hid (And.intro (show Lib.byteCells y.key ++ Lib.byteCells y.data = Lib.byteCells (y.key ++ y.data) by rw [byteCells_app]) (show y.key.length + y.data.length = (y.key ++ y.data).length by rw [List.length_append]))
      obtain ⟨L, K, z⟩ := H7.out.s3.look
      go_wp2_with (first
        | (at_builtin; refine wpList_appS rfl _ _ _ rfl bElem _ (0) _ rfl H7.out w6.heap.size Ak y.key.length ck (Lib.byteCells y.key) rfl (HB.out.2 _ _ H7.out.s4).2.2.2.2.1.1 (by rw [byteCells_len, Nat.mul_one]) (byteCells_one _) (by unfold maxLen; omega) (by omega) ?_
           intro B8 d8 w8 S8
           rw [Nat.zero_add, List.nil_append] at S8
           rw [Nat.zero_add]
           have H8 := Lib.hid S8
           clear S8 H7 K z
           obtain ⟨L, K, z⟩ := H8.out.s3.look)
        | (at_builtin; refine wpList_appS rfl _ _ _ rfl bElem _ (y.key.length) _ rfl H8.out w8.heap.size Ad y.data.length cd (Lib.byteCells y.data) rfl (HB.out.2 _ _ H8.out.s4).2.2.2.2.2.1 (by rw [byteCells_len, Nat.mul_one]) (byteCells_one _) (by unfold maxLen; omega) (by omega) ?_
           intro B9 d9 w9 S9
           rw [HOU.out.1, HOU.out.2] at S9
           have H9 := Lib.hid S9
           clear S9 H8 L K z
           obtain ⟨L, K, z⟩ := H9.out.s3.look))
      refine (good_any _ _ _ _).mono ?_
      rintro e w29 ⟨rfl, b9⟩
      -- out, disk, count, box, P, reply, slices, last
      have H29 := Lib.hid ((H9.out.grow b9).s5)
      clear b9 H9 L K z
      obtain ⟨L, K, z⟩ := H29.out.look
      go_wp2
      refine bodyPost_ret (by simp [results, Tryz.results36, go_sem, L]; rfl) rfl ?_
      rw [HR.out]
      -- reply, out, disk, count, box, P, slices, last
      refine ⟨B9, d9, congrArg (fun m => Ending.returned (.agg #[.slice B9 m d9, .int .i64 12, .int .i64 0])) (show _ = (y.key ++ y.data).length by rw [← HOU.out.2]), ?_⟩
      show SL W (rowS 5 1 (.slice B9 (y.key ++ y.data).length d9) (y.key ++ y.data).length (Lib.byteCells (y.key ++ y.data)) :: qdiskS x { s with next := s.next + 1 } :: F) _
      exact (HCS.out _ { s with next := s.next + 1 } _ rfl rfl H29.out.set3.drop.s1.s2.drop.s2.drop.s1.b4).s1
  · have hn : s.recs[s.next]? = none := List.getElem?_eq_none (by omega)
    have HR := Lib.hid (show dkRead s false true = dkCheck s 2 by rw [HDK.out, hn])
    have t1 : ((s.recs.length : Int) ≤ (s.next : Int)) = True := eq_true (by omega)
    clear hn hlt HDK
    go_wp2_with fail
    (refine (fail_any 2 H2.out.s1).mono ?_; rintro e w9 ⟨rfl, S9⟩; have H9 := Lib.hid S9.s1; clear S9; (obtain ⟨L, K, z⟩ := H9.out.look; go_wp2; refine bodyPost_ret (v := .agg #[.slice none 0 0, .int .i64 14, .int .i64 2]) (by simp [results, Tryz.results36, go_sem, L]) rfl ?_); rw [HR.out]; exact RetQ.of (selQ_close rfl HV.out H9.out.set3.drop))
set_option maxRecDepth 100000 in
set_option maxHeartbeats 16000000 in
theorem qread30_any (h : s.ok) (S : SL W (qdiskS x s :: F) w) : Calls Tryz.prog 36 #[.pointer (some ⟨x, 0, none⟩), .int .i64 30] w (RetQ W F x (dkRead s true true)) := by
  have hhl := h.here_lt
  have hnx := h.nx
  have HCY := Lib.hid (show s.cyl ≤ 64 ∧ s.head ≤ 8 by have := h.cy; have := h.c1; have := h.hd; have := h.h1; omega)
  have HDK := Lib.hid (show dkRead s true true = match s.recs[s.next]? with
    | none => dkCheck s 2
    | some x => if x.bad then dkCheck { s with next := s.next + 1 } 8 else dkDone { s with next := s.next + 1 } (cntL s.cyl s.head x ++ x.key ++ x.data) from rfl)
  obtain ⟨tb, old, a, n, vs, A0, c0, hv0, hva, hvz, hlc, hcm, S1⟩ := selQ_open h S; have HS := Lib.hid S1; have HV := Lib.hid hv0; have HVZ := Lib.hid (And.intro hva hvz); have HH := Lib.hid h; have hrl := h.rl; clear S S1 h hv0 hva hvz
  (go_enter Tryz.func36, Tryz.ntmps36; go_upto_region 1 with fail; refine name_world (P := Code.wp _ _ _ _) ?_; intro wA hwA; have H1 := Lib.hid (SL.cast hwA (HS.out.allocC #[.slice none 0 0, .int .i64 0, .int .i64 0] 53)); clear hwA HS; generalize w.heap.size = rb at *)
  obtain ⟨L, K, z⟩ := H1.out.s1.look
  obtain ⟨L2, K2, z2⟩ := H1.out.s2.look
  have hqv := (L2 s.here).trans HVZ.out.1
  have hhi : (s.here : Int) < (s.tracks.length : Int) := by omega
  have HX := Lib.hid (fun (wx : World) (hx : Below wA.heap.size wA wx) => (⟨(hx.cell (p := ⟨x, 3, none⟩) z).trans (L 3), (hx.cell (p := ⟨tb, s.here, none⟩) z2).trans hqv⟩ : wx.cell? ⟨x, 3, none⟩ = some (.slice (some ⟨tb, 0, none⟩) s.tracks.length s.tracks.length) ∧ wx.cell? ⟨tb, s.here, none⟩ = some (.slice A0 s.recs.length c0)))
  have HC := Lib.hid (fun (wx : World) (hx : Below wA.heap.size wA wx) => qhere_b HH.out (H1.out.s1.grow hx))
  clear L K z L2 K2 z2 hqv
  refine wp_region_quiet (C := Below wA.heap.size wA) (by kernel_rfl) (by kernel_rfl) (Below.refl _ _).drew ?_
  (repeat (with_reducible refine wpQuiet_step ?_; intro K hK; go_simp; first | (with_reducible refine hK _ ?_; clear hK K) | (rw [if_neg (by decide)]; with_reducible refine hK _ ?_; clear hK K) | (refine ⟨_, fun wx hx => (by obtain ⟨f0, f1⟩ := HX.out wx hx; go_simp; with_reducible rfl), hK _ ?_⟩; clear hK K) | (refine ⟨_, fun wx hx => (by with_reducible refine (HC.out wx hx).mono ?_; rintro e w' ⟨rfl, h2⟩; exact ⟨rfl, hx.trans (h2.mono hx.size)⟩), hK _ ?_⟩; clear hK K) | (refine ⟨_, fun _ _ => rfl, hK _ ?_⟩; clear hK K))); with_reducible refine wpQuiet_nil ?_
  intro w1 b1
  have H2 := Lib.hid (H1.out.grow b1)
  clear b1 H1 HX HC
  obtain ⟨L, K, z⟩ := H2.out.s1.look
  by_cases hlt : s.next < s.recs.length
  · have hy : s.recs[s.next]? = some s.recs[s.next] := List.getElem?_eq_getElem hlt
    have hyr := valid_rec HH.out.rv hy
    generalize s.recs[s.next] = y at hy hyr
    have HY := Lib.hid hyr
    have HDY := Lib.hid (show dkRead s true true = if y.bad then dkCheck { s with next := s.next + 1 } 8 else dkDone { s with next := s.next + 1 } (cntL s.cyl s.head y ++ y.key ++ y.data) by rw [HDK.out, hy])
    obtain ⟨P, g, off, ck, cd, Ak, Ad, hA, SP, hback, hrec⟩ := recQ_sel HVZ.out.2 hy H2.out.s3
    subst hA
    have HB := Lib.hid (And.intro hback hrec)
    have HSP := Lib.hid SP
    obtain ⟨k0, k1, k2, k3, _, _⟩ := hrec _ _ SP
    have t1 : ((s.recs.length : Int) ≤ (s.next : Int)) = False := eq_false (by omega)
    have t2 : (s.next : Int) < (s.recs.length : Int) := by omega
    clear hy hyr hback hrec SP HDK hlt
    go_upto_region 5 with fail
    refine name_world (P := Code.wp _ _ _ _) ?_
    intro w3 hw3
    -- box, P, reply, disk, slices, last
    have H3 := Lib.hid (SL.cast hw3 (HSP.out.allocC #[.int .i64 y.r, .slice Ak y.key.length ck, .slice Ad y.data.length cd, .bool y.bad] 62))
    clear hw3 HSP k0 k1 k2 k3 L K z H2
    generalize w1.heap.size = xb at *
    obtain ⟨L, K, z⟩ := H3.out.s3.look
    obtain ⟨L2, K2, z2⟩ := H3.out.look
    have HX := Lib.hid (fun (wx : World) (hx : Below w3.heap.size w3 wx) => (⟨(hx.cell (p := ⟨x, 4, none⟩) z).trans (L 4), (hx.cell (p := ⟨x, 5, none⟩) z).trans (L 5), (hx.cell (p := ⟨xb, 0, none⟩) z2).trans (L2 0), (hx.cell (p := ⟨xb, 1, none⟩) z2).trans (L2 1), (hx.cell (p := ⟨xb, 2, none⟩) z2).trans (L2 2), (hx.cell (p := ⟨xb, 3, none⟩) z2).trans (L2 3)⟩ :
      wx.cell? ⟨x, 4, none⟩ = some (.int .i64 (s.cyl : Int)) ∧ wx.cell? ⟨x, 5, none⟩ = some (.int .i64 (s.head : Int)) ∧ wx.cell? ⟨xb, 0, none⟩ = some (.int .i64 y.r) ∧ wx.cell? ⟨xb, 1, none⟩ = some (.slice Ak y.key.length ck) ∧ wx.cell? ⟨xb, 2, none⟩ = some (.slice Ad y.data.length cd) ∧ wx.cell? ⟨xb, 3, none⟩ = some (.bool y.bad)))
    clear L K z L2 K2 z2
    refine wp_region_order (fun wx => Below w3.heap.size w3 wx) [0, 1, 2, 4, 5, 6] [3, 7, 8] [] [9, 10] [] (by kernel_rfl) (by kernel_rfl) (Below.refl _ _).drew (by intro c a d v w h; cases d <;> exact h) ?_
    simp only [pick, List.filterMap_cons, List.filterMap_nil, List.getElem?_cons_zero, List.getElem?_cons_succ]
    (repeat (with_reducible refine wpPure_step ?_; intro K hK; go_simp; with_reducible refine hK _ ?_; clear hK K))
    refine wpPure_nil ?_
    (repeat (with_reducible refine wpLoads_step ?_; intro K hK; go_simp; first | (with_reducible refine hK _ ?_; clear hK K) | (rw [if_neg (by decide)]; with_reducible refine hK _ ?_; clear hK K) | (refine ⟨_, fun wx hx => (by obtain ⟨f0, f1, f2, f3, f4, f5⟩ := HX.out wx hx; go_simp; with_reducible rfl), hK _ ?_⟩; clear hK K) | (refine ⟨_, fun _ _ => rfl, hK _ ?_⟩; clear hK K))); with_reducible refine wpLoads_nil ?_
    refine wpQuiet_nil ?_
    intro wq hwq
    have BQ := Lib.hid hwq
    clear hwq HX
    (with_reducible refine wpKeep_step ?_; intro K hK; go_simp)
    refine (qcount_any s.cyl s.head y Ak Ad ck cd HCY.out.1 HCY.out.2 HY.out (SL.start wq)).mono ?_
    rintro e w4 ⟨A5, c5, rfl, S4⟩
    have B4 := Lib.hid (BQ.out.trans (S4.below.mono BQ.out.size))
    have H5 := Lib.hid ((H3.out.grow BQ.out).join S4)
    refine hK _ _ B4.out ?_
    clear hK K S4 H3
    (with_reducible refine wpKeep_step ?_; intro K hK; go_simp; first | (with_reducible refine hK _ _ (B4.out) ?_; clear hK K) | (rw [if_neg (by decide)]; with_reducible refine hK _ _ (B4.out) ?_; clear hK K))
    refine wpKeep_nil ?_
    clear B4 BQ
    -- count, box, P, reply, disk, slices, last
    have hcl : (cntL s.cyl s.head y).length = 8 := cntL_len _ _ _
    have HCL := Lib.hid hcl
    clear hcl
    obtain ⟨L, K, z⟩ := H5.out.s4.look
    go_upto_region 9 with fail
    refine name_world (P := Code.wp _ _ _ _) ?_
    intro w6 hw6
    -- disk, count, box, P, reply, slices, last
    have H6 := Lib.hid (SL.cast hw6 (H5.out.s4.set (off := 6) (v := .int .i64 ((s.next : Int) + 1)) (cs' := qCells { s with next := s.next + 1 } tb s.last.isSome old a n) rfl))
    clear hw6 H5 L K z
    have hcls : ∀ (G : List SA) (s2 : DK) (w' : World), s2.tracks = s.tracks → s2.last = s.last → SL W (cel x (qCells s2 tb s.last.isSome old a n) 40 :: P :: cel tb vs.toArray 35 :: lastQ old a n s.last :: G) w' → SL W (qdiskS x s2 :: G) w' := fun G s2 w' e1 e2 S' => by
      have h := (HB.out.1 _ _ S'.s1).b2
      rw [← e1, ← e2] at h
      exact selQ_close rfl (by rw [e1]; exact HV.out) h
    have HCS := Lib.hid hcls
    clear hcls
    obtain ⟨L, K, z⟩ := H6.out.s2.look
    cases hbad : y.bad with
    | true =>
      have HR := Lib.hid (show dkRead s true true = dkCheck { s with next := s.next + 1 } 8 by rw [HDY.out, hbad]; rfl)
      have k5 : w6.cell? ⟨xb, 3, none⟩ = some (.bool true) := by rw [← hbad]; exact L 3
      clear hbad L
      go_wp2_with fail
      refine (fail_any 8 H6.out).mono ?_
      rintro e w9 ⟨rfl, S9⟩
      have H9 := Lib.hid S9.s4
      clear S9
      (obtain ⟨L, K, z⟩ := H9.out.look; go_wp2; refine bodyPost_ret (v := .agg #[.slice none 0 0, .int .i64 14, .int .i64 8]) (by simp [results, Tryz.results36, go_sem, L]) rfl ?_)
      rw [HR.out]
      -- reply, disk, count, box, P, slices, last
      exact RetQ.of (HCS.out _ { s with next := s.next + 1, sense := 8 } _ rfl rfl H9.out.set3.drop.s1.drop.s1.drop)
    | false =>
      have HR := Lib.hid (show dkRead s true true = dkDone { s with next := s.next + 1 } (cntL s.cyl s.head y ++ y.key ++ y.data) by rw [HDY.out, hbad]; rfl)
      have k5 : w6.cell? ⟨xb, 3, none⟩ = some (.bool false) := by rw [← hbad]; exact L 3
      obtain ⟨hr1, hr2, hr3, hr4⟩ := HY.out
      have H7 := Lib.hid (show SL W (rowS 5 1 (.slice none 0 0) 0 [] :: _) w6 from H6.out.nil _ _)
      clear hbad L H6
      have HOU := Lib.hid (And.intro (show Lib.byteCells (cntL s.cyl s.head y) ++ Lib.byteCells y.key ++ Lib.byteCells y.data = Lib.byteCells (cntL s.cyl s.head y ++ y.key ++ y.data) by rw [byteCells_app, byteCells_app]) (show 8 + y.key.length + y.data.length = (cntL s.cyl s.head y ++ y.key ++ y.data).length by rw [List.length_append, List.length_append, HCL.out]))
      obtain ⟨L, K, z⟩ := H7.out.s3.look
      go_wp2_with (first
        | (at_builtin; refine wpList_appS rfl _ _ _ rfl bElem _ (0) _ rfl H7.out w6.heap.size A5 8 c5 (Lib.byteCells (cntL s.cyl s.head y)) rfl H7.out.s2.at_ (by rw [byteCells_len, HCL.out]) (byteCells_one _) (by unfold maxLen; omega) (by omega) ?_
           intro B8 d8 w8 S8
           rw [Nat.zero_add, List.nil_append] at S8
           rw [Nat.zero_add]
           have H8 := Lib.hid S8
           clear S8 H7 K z
           obtain ⟨L, K, z⟩ := H8.out.s3.look)
        | (at_builtin; refine wpList_appS rfl _ _ _ rfl bElem _ (8) _ rfl H8.out w8.heap.size Ak y.key.length ck (Lib.byteCells y.key) rfl (HB.out.2 _ _ H8.out.s4).2.2.2.2.1.1 (by rw [byteCells_len, Nat.mul_one]) (byteCells_one _) (by unfold maxLen; omega) (by omega) ?_
           intro B9 d9 w9 S9
           have H9 := Lib.hid S9
           clear S9 H8 L K z
           obtain ⟨L, K, z⟩ := H9.out.s3.look)
        | (at_builtin; refine wpList_appS rfl _ _ _ rfl bElem _ (8 + y.key.length) _ rfl H9.out w9.heap.size Ad y.data.length cd (Lib.byteCells y.data) rfl (HB.out.2 _ _ H9.out.s4).2.2.2.2.2.1 (by rw [byteCells_len, Nat.mul_one]) (byteCells_one _) (by unfold maxLen; omega) (by omega) ?_
           intro B10 d10 w10 S10
           rw [HOU.out.1, HOU.out.2] at S10
           have H10 := Lib.hid S10
           clear S10 H9 L K z
           obtain ⟨L, K, z⟩ := H10.out.s3.look))
      refine (good_any _ _ _ _).mono ?_
      rintro e w29 ⟨rfl, b9⟩
      -- out, disk, count, box, P, reply, slices, last
      have H29 := Lib.hid ((H10.out.grow b9).s5)
      clear b9 H10 L K z
      obtain ⟨L, K, z⟩ := H29.out.look
      go_wp2
      refine bodyPost_ret (by simp [results, Tryz.results36, go_sem, L]; rfl) rfl ?_
      rw [HR.out]
      -- reply, out, disk, count, box, P, slices, last
      refine ⟨B10, d10, congrArg (fun m => Ending.returned (.agg #[.slice B10 m d10, .int .i64 12, .int .i64 0])) (show _ = (cntL s.cyl s.head y ++ y.key ++ y.data).length by rw [← HOU.out.2]), ?_⟩
      show SL W (rowS 5 1 (.slice B10 (cntL s.cyl s.head y ++ y.key ++ y.data).length d10) (cntL s.cyl s.head y ++ y.key ++ y.data).length (Lib.byteCells (cntL s.cyl s.head y ++ y.key ++ y.data)) :: qdiskS x { s with next := s.next + 1 } :: F) _
      exact (HCS.out _ { s with next := s.next + 1 } _ rfl rfl H29.out.set3.drop.s1.s2.drop.s2.drop.s1.b4).s1
  · have hn : s.recs[s.next]? = none := List.getElem?_eq_none (by omega)
    have HR := Lib.hid (show dkRead s true true = dkCheck s 2 by rw [HDK.out, hn])
    have t1 : ((s.recs.length : Int) ≤ (s.next : Int)) = True := eq_true (by omega)
    clear hn hlt HDK
    go_wp2_with fail
    (refine (fail_any 2 H2.out.s1).mono ?_; rintro e w9 ⟨rfl, S9⟩; have H9 := Lib.hid S9.s1; clear S9; (obtain ⟨L, K, z⟩ := H9.out.look; go_wp2; refine bodyPost_ret (v := .agg #[.slice none 0 0, .int .i64 14, .int .i64 2]) (by simp [results, Tryz.results36, go_sem, L]) rfl ?_); rw [HR.out]; exact RetQ.of (selQ_close rfl HV.out H9.out.set3.drop))
end
end Go.Proofs.YtmkndbledppniaaGreat
