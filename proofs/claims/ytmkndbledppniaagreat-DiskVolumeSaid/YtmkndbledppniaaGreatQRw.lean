/- The document's unit: rewrite. -/
import Derived.Test.YtmkndbledppniaaGreatQM2
namespace Go.Proofs.YtmkndbledppniaaGreat
open Go.RowKit
theorem repR_at {rs : List Rec} {i : Nat} {y x : Rec} (hv : validB rs = true) (hy : rs[i]? = some y) (hr : x.r = y.r) (hk : x.key.length = y.key.length) (hd : x.data.length = y.data.length) : repR rs x = rs.set i x := by
  have hf : findN rs x.r = some i := by
    rw [hr]
    unfold findN
    refine findIdx_some hy (by simp) fun j z hj hz => ?_
    have hp := asc_pw (validB_iff.1 hv).1
    rw [List.pairwise_iff_getElem] at hp
    have h1 := hp j i (List.getElem?_eq_some_iff.1 hz).1 (List.getElem?_eq_some_iff.1 hy).1 hj
    rw [(List.getElem?_eq_some_iff.1 hz).2, (List.getElem?_eq_some_iff.1 hy).2] at h1
    exact decide_eq_false (by omega)
  have he : repE rs x = 0 := by
    unfold repE
    rw [hv, if_pos rfl, hf]
    dsimp only
    rw [hy]
    dsimp only
    rw [if_pos ⟨hk.symm, hd.symm⟩]
  unfold repR
  rw [if_pos he, hf]; rfl
theorem flat_set3 {ps : List RV} {i : Nat} {q : RV} {vk vd : Value} {y : Rec} (hq : ps[i]? = some q) (hr : y.r = q.2.r) : (((ps.flatMap recCells).set (i * 4 + 1) vk).set (i * 4 + 2) vd).set (i * 4 + 3) (.bool y.bad) = (ps.set i ((vk, vd), y)).flatMap recCells := by
  have hlen : ∀ l : List RV, (l.flatMap recCells).length = l.length * 4 := fun l => by
    induction l with
    | nil => rfl
    | cons a l ih => simp only [List.flatMap_cons, List.length_append, ih, List.length_cons, recCells]; simp; omega
  have hi := (List.getElem?_eq_some_iff.1 hq).1
  apply List.ext_getElem?
  intro j
  by_cases hj : j < ps.length * 4
  · obtain ⟨k, r, hr4, rfl⟩ : ∃ k r, r < 4 ∧ j = k * 4 + r := ⟨j / 4, j % 4, Nat.mod_lt _ (by omega), by omega⟩
    have hk : k < ps.length := by omega
    simp only [List.getElem?_set, List.length_set, hlen]
    by_cases e : i = k
    · subst e
      have hnew : (ps.set i ((vk, vd), y))[i]? = some ((vk, vd), y) := by rw [List.getElem?_set, if_pos rfl, if_pos hi]
      rw [recCells_get _ i r _ hnew hr4, recCells_get ps i r q hq hr4]
      have h4 : r = 0 ∨ r = 1 ∨ r = 2 ∨ r = 3 := by omega
      rcases h4 with rfl | rfl | rfl | rfl
      · rw [if_neg (by omega), if_neg (by omega), if_neg (by omega)]; simp [recCells, hr]
      · rw [if_neg (by omega), if_neg (by omega), if_pos rfl, if_pos (by omega)]; rfl
      · rw [if_neg (by omega), if_pos rfl, if_pos (by omega)]; rfl
      · rw [if_pos rfl, if_pos (by omega)]; rfl
    · have hnew : (ps.set i ((vk, vd), y))[k]? = some (ps[k]'hk) := by rw [List.getElem?_set, if_neg e, List.getElem?_eq_getElem]
      rw [if_neg (by omega), if_neg (by omega), if_neg (by omega), recCells_get _ k r _ hnew hr4, recCells_get ps k r ps[k] (by simp) hr4]
  · rw [List.getElem?_eq_none (by simp only [List.length_set, hlen]; omega), List.getElem?_eq_none (by rw [hlen, List.length_set]; omega)]
section
variable {W w : World} {F : List SA} {x : Nat} {s : DK}
theorem row_setN {e : TypeId} {size n c g j : Nat} {xs : List Value} (hn : 0 < n) (hj : j < n * size) (S : SL W (rowS e size (.slice (some ⟨g, 0, none⟩) n c) n xs :: F) w) : w.cell? ⟨g, j, none⟩ = xs[j]? ∧ w.frozen? ⟨g, j, none⟩ = false ∧ g < w.heap.size ∧
    ∀ v, SL W (rowS e size (.slice (some ⟨g, 0, none⟩) n c) n (xs.set j v) :: F) (w.setCell ⟨g, j, none⟩ v) := by
  have hxl : xs.length = n * size := S.own.1
  obtain ⟨y, cap, cur, hv, h1, h2, h3, h4, S2⟩ := S.rowCel hn
  injection hv with ha _ hc
  injection ha with ha; injection ha with ha
  subst ha; subst hc
  obtain ⟨L, K, z⟩ := S2.look
  have hjc : n * size ≤ c * size := Nat.mul_le_mul_right _ h1
  refine ⟨?_, K _, z, fun v => ?_⟩
  · rw [L, ← h4, List.getElem?_take, if_pos hj, Array.getElem?_toList]
  · refine SL.head (S2.set (off := j) (v := v) rfl) (rowS_pts (n := n) (size := size) h1 h2 (by simp [h3]) ?_)
    rw [← h4]
    refine List.ext_getElem? fun i => ?_
    rw [List.getElem?_take, List.getElem?_set, Array.getElem?_toList, Array.getElem?_setIfInBounds, List.length_take, Array.length_toList, List.getElem?_take, Array.getElem?_toList]
    by_cases hi : i < n * size
    · rw [if_pos hi, if_pos hi]
      by_cases e : j = i
      · rw [if_pos e, if_pos e, if_pos (by omega), if_pos (by omega)]
      · rw [if_neg e, if_neg e]
    · rw [if_neg hi, if_neg hi, if_neg (by omega)]
/-- A record of a list is laid anew; its parts lie elsewhere. -/
theorem rw_set3 {g n c i : Nat} {ps : List RV} {q : RV} {vk vd : Value} {y : Rec} (hl : ps.length = n) (hq : ps[i]? = some q) (hr : y.r = q.2.r) (S : SL W (rowS 62 4 (.slice (some ⟨g, 0, none⟩) n c) n (ps.flatMap recCells) :: F) w) :
    SL W (rowS 62 4 (.slice (some ⟨g, 0, none⟩) n c) n ((ps.set i ((vk, vd), y)).flatMap recCells) :: F) (((w.setCell ⟨g, i * 4 + 1, none⟩ vk).setCell ⟨g, i * 4 + 2, none⟩ vd).setCell ⟨g, i * 4 + 3, none⟩ (.bool y.bad)) := by
  have hi := (List.getElem?_eq_some_iff.1 hq).1
  rw [← flat_set3 hq hr]
  exact (row_setN (by omega) (by omega) ((row_setN (by omega) (by omega) ((row_setN (by omega) (by omega) S).2.2.2 vk)).2.2.2 vd)).2.2.2 _
theorem rw_set2 {g n c i : Nat} {ps : List RV} {q : RV} {vd : Value} {y : Rec} (hl : ps.length = n) (hq : ps[i]? = some q) (hr : y.r = q.2.r) (S : SL W (rowS 62 4 (.slice (some ⟨g, 0, none⟩) n c) n (ps.flatMap recCells) :: F) w) :
    SL W (rowS 62 4 (.slice (some ⟨g, 0, none⟩) n c) n ((ps.set i ((q.1.1, vd), y)).flatMap recCells) :: F) ((w.setCell ⟨g, i * 4 + 2, none⟩ vd).setCell ⟨g, i * 4 + 3, none⟩ (.bool y.bad)) := by
  have hi := (List.getElem?_eq_some_iff.1 hq).1
  have e := flat_set3 (vk := q.1.1) (vd := vd) hq hr
  have e1 : (ps.flatMap recCells).set (i * 4 + 1) q.1.1 = ps.flatMap recCells := by
    have hg : (ps.flatMap recCells)[i * 4 + 1]? = some q.1.1 := by rw [recCells_get ps i 1 q hq (by omega)]; rfl
    apply List.ext_getElem?
    intro j
    rw [List.getElem?_set]
    split
    · rename_i h; subst h; rw [if_pos (List.getElem?_eq_some_iff.1 hg).1, hg]
    · rfl
  rw [e1] at e
  rw [← e]
  exact (row_setN (by omega) (by omega) ((row_setN (by omega) (by omega) S).2.2.2 vd)).2.2.2 _
theorem rw_close {A : Option Addr} {c i n : Nat} {ps : List RV} {q : RV} {X : SA} {t : List Rec} (hn : ps.length = n) (ht : t = (ps.map Prod.snd).set i q.2) (h1 : n ≤ c) (h2 : c ≤ maxLen) (hv : ∀ (W0 w : World) (G : List SA), SL W0 (star (ps.map recO) :: X :: G) w → RecV w q)
    (S : SL W (rowS 62 4 (.slice A n c) n ((ps.set i q).flatMap recCells) :: star (ps.map recO) :: X :: F) w) : SL W (trackQ (.slice A n c) t :: F) w := by
  subst ht
  have h := trackQ_of (L := [rowS 62 4 (.slice A n c) n ((ps.set i q).flatMap recCells), star (ps.map recO), X]) (A := A) (c := c) (ps := ps.set i q) (F := F) (by rw [List.length_set]; omega) h2 (fun W0 w0 S0 => recsP_at S0 (fun p hp => by
    rcases List.mem_or_eq_of_mem_set hp with h | h
    · exact recO_v S0.s1 p h
    · subst h; exact hv W0 w0 _ S0.drop)) S
  rw [List.length_set, hn, List.map_set] at h
  exact h

set_option maxRecDepth 100000 in
set_option maxHeartbeats 16000000 in
theorem qrewrite_key (A : Option Addr) (b : List UInt8) (c : Nat) (y : Rec) (hy : s.recs[s.next]? = some y) (hd : CardB W F A b c) (h : s.ok) (S : SL W (qdiskS x s :: F) w) : Calls Tryz.prog 39 #[.pointer (some ⟨x, 0, none⟩), .slice A b.length c, .bool true] w (RetQ W F x (dkRewrite s ⟨y.r, (padL b (y.key.length + y.data.length)).take y.key.length, (padL b (y.key.length + y.data.length)).drop y.key.length, false⟩)) := by
  have hhl := h.here_lt
  have hnx := h.nx
  have HDB := Lib.hid hd
  have HY := Lib.hid (And.intro hy (valid_rec h.rv hy))
  have hnl := (List.getElem?_eq_some_iff.1 hy).1
  obtain ⟨tb, old, a, n, vs, A0, c0, hv0, hva, hvz, hlc, hcm, S1⟩ := selQ_open h S; have HS := Lib.hid S1; have HV := Lib.hid hv0; have HVZ := Lib.hid (And.intro hva hvz); have HH := Lib.hid h; have hrl := h.rl; clear S S1 h hv0 hva hvz
  clear hd hy
  (go_enter Tryz.func39, Tryz.ntmps39; go_upto_region 1 with fail; refine name_world (P := Code.wp _ _ _ _) ?_; intro wA hwA; have H1 := Lib.hid (SL.cast hwA (HS.out.allocC #[.slice none 0 0, .int .i64 0, .int .i64 0] 53)); clear hwA HS; generalize w.heap.size = rb at *)
  obtain ⟨L, K, z⟩ := H1.out.s1.look
  obtain ⟨L2, K2, z2⟩ := H1.out.s2.look
  have hqv := (L2 s.here).trans HVZ.out.1
  have hhi : (s.here : Int) < (s.tracks.length : Int) := by omega
  have HX := Lib.hid (fun (wx : World) (hx : Below wA.heap.size wA wx) => (⟨(hx.cell (p := ⟨x, 3, none⟩) z).trans (L 3), (hx.cell (p := ⟨tb, s.here, none⟩) z2).trans hqv⟩ : wx.cell? ⟨x, 3, none⟩ = some (.slice (some ⟨tb, 0, none⟩) s.tracks.length s.tracks.length) ∧ wx.cell? ⟨tb, s.here, none⟩ = some (.slice A0 s.recs.length c0)))
  have HC := Lib.hid (fun (wx : World) (hx : Below wA.heap.size wA wx) => qhere_b HH.out (H1.out.s1.grow hx))
  clear L K z L2 K2 z2 hqv
  refine wp_region_order (fun wx => Below wA.heap.size wA wx) [] [] [0, 1, 2, 3, 4, 5, 6, 7] [8, 9] [] (by kernel_rfl) (by kernel_rfl) (Below.refl _ _).drew (by intro c a d v w h; cases d <;> exact h) ?_
  simp only [pick, List.filterMap_cons, List.filterMap_nil, List.getElem?_cons_zero, List.getElem?_cons_succ]
  refine wpPure_nil ?_
  refine wpLoads_nil ?_
  (repeat (with_reducible refine wpQuiet_step ?_; intro K hK; go_simp; first | (with_reducible refine hK _ ?_; clear hK K) | (rw [if_neg (by decide)]; with_reducible refine hK _ ?_; clear hK K) | (refine ⟨_, fun wx hx => (by obtain ⟨f0, f1⟩ := HX.out wx hx; go_simp; with_reducible rfl), hK _ ?_⟩; clear hK K) | (refine ⟨_, fun wx hx => (by with_reducible refine (HC.out wx hx).mono ?_; rintro e w' ⟨rfl, h2⟩; exact ⟨rfl, hx.trans (h2.mono hx.size)⟩), hK _ ?_⟩; clear hK K) | (refine ⟨_, fun _ _ => rfl, hK _ ?_⟩; clear hK K))); with_reducible refine wpQuiet_nil ?_
  intro wq hwq
  have BQ := Lib.hid hwq
  clear hwq HX HC
  have hat := trackQ_at ((H1.out.grow BQ.out).s3.take HVZ.out.2)
  have HCP := Lib.hid (rcopy_any A0 s.recs c0 (SL.start wq) (fun wx Sx => hat.grow Sx.below) (valid_fit2 HH.out.rv))
  clear hat
  (with_reducible refine wpKeep_step ?_; intro K hK; go_simp)
  refine HCP.out.mono ?_
  rintro e w2 ⟨A2, c2, rfl, S2⟩
  have B2 := Lib.hid (BQ.out.trans (S2.below.mono BQ.out.size))
  have h2 := (H1.out.grow BQ.out).join S2
  refine hK _ _ B2.out ?_
  clear hK K S2 HCP
  (with_reducible refine wpKeep_step ?_; intro K hK; go_simp; first | (with_reducible refine hK _ _ (B2.out) ?_; clear hK K) | (rw [if_neg (by decide)]; with_reducible refine hK _ _ (B2.out) ?_; clear hK K))
  refine wpKeep_nil ?_
  obtain ⟨_, _, e0, hcl2, hcm2⟩ := recsS_len h2
  injection e0 with e1 _ e0
  subst e1
  subst e0
  obtain ⟨ps, hps, S3⟩ := recsS_open h2
  have hpl : ps.length = s.recs.length := by rw [← hps, List.length_map]
  rw [hpl] at S3
  obtain ⟨q, hq, hq2⟩ : ∃ q, ps[s.next]? = some q ∧ q.2 = y := by
    have h := HY.out.1
    rw [← hps, List.getElem?_map] at h
    exact Option.map_eq_some_iff.1 h
  obtain ⟨Ak, ck, Ad, cd, eq1, _, _⟩ := recO_v S3.s1 q (List.mem_iff_getElem?.2 ⟨_, hq⟩)
  have hcc := fun j (hj : j < 4) => recCells_get ps s.next j q hq hj
  obtain ⟨g, hA, _, c0'⟩ := S3.cellAt (j := s.next * 4 + 0) (u := .int .i64 q.2.r) (by rw [hcc 0 (by omega)]; rfl)
  subst hA
  have k1 := (row_setN (j := s.next * 4 + 1) (by omega) (by omega) S3).1.trans ((hcc 1 (by omega)).trans (show (recCells q)[1]? = some q.1.1 from rfl))
  have k2 := (row_setN (j := s.next * 4 + 2) (by omega) (by omega) S3).1.trans ((hcc 2 (by omega)).trans (show (recCells q)[2]? = some q.1.2 from rfl))
  have k3 := (row_setN (j := s.next * 4 + 3) (by omega) (by omega) S3).1.trans ((hcc 3 (by omega)).trans (show (recCells q)[3]? = some (.bool q.2.bad) from rfl))
  have z3 := (row_setN (j := s.next * 4 + 3) (by omega) (by omega) S3).2.2.1
  rw [hq2] at c0' k3
  rw [eq1] at k1 k2
  rw [hq2] at k1 k2
  rw [Nat.add_zero] at c0'
  have HQ := Lib.hid (And.intro hps (And.intro hpl (And.intro hq (And.intro hq2 eq1))))
  have H3 := Lib.hid S3
  have HKC := Lib.hid (fun (wx : World) (hx : Below w2.heap.size w2 wx) => (⟨(hx.cell (p := ⟨g, s.next * 4, none⟩) z3).trans c0', (hx.cell (p := ⟨g, s.next * 4 + 1, none⟩) z3).trans k1, (hx.cell (p := ⟨g, s.next * 4 + 2, none⟩) z3).trans k2, (hx.cell (p := ⟨g, s.next * 4 + 3, none⟩) z3).trans k3⟩ :
    wx.cell? ⟨g, s.next * 4, none⟩ = some (.int .i64 y.r) ∧ wx.cell? ⟨g, s.next * 4 + 1, none⟩ = some (.slice Ak y.key.length ck) ∧ wx.cell? ⟨g, s.next * 4 + 2, none⟩ = some (.slice Ad y.data.length cd) ∧ wx.cell? ⟨g, s.next * 4 + 3, none⟩ = some (.bool y.bad)))
  clear h2 H1 BQ B2 S3 hps hpl hq hq2 eq1 hcc c0' k1 k2 k3
  -- list, parts, reply, disk, slices, tracks, last
  obtain ⟨L, K, z⟩ := H3.out.s3.look
  have hni : (s.next : Int) < (s.recs.length : Int) := by omega
  obtain ⟨_, hkl1, hkl, hdl⟩ := HY.out.2

  have hfl := fun (wx : World) (hx : Below w2.heap.size w2 wx) => fill_any (F := []) A b b.length c (y.key.length + y.data.length) rfl (HDB.out wx (H3.out.grow hx).drop.drop.drop.drop.drop.drop.drop) (by omega) (SL.start wx)
  have HFL := Lib.hid hfl
  have ew : IntKind.i64.wrap ((y.key.length : Int) + (y.data.length : Int)) = ((y.key.length + y.data.length : Nat) : Int) := by rw [IntWalk.i64_in _ (by omega)]; omega
  clear hfl
  go_upto_region 4 with fail
  refine wp_region_order (fun wx => Below w2.heap.size w2 wx) [] [] [0, 1, 2, 3, 4, 5, 6, 7, 8, 9, 10, 11] [12, 13] [] (by kernel_rfl) (by kernel_rfl) (Below.refl _ _).drew (by intro c a d v w h; cases d <;> exact h) ?_
  simp only [pick, List.filterMap_cons, List.filterMap_nil, List.getElem?_cons_zero, List.getElem?_cons_succ]
  refine wpPure_nil ?_
  refine wpLoads_nil ?_
  (repeat (with_reducible refine wpQuiet_step ?_; intro K hK; go_simp; first | (with_reducible refine hK _ ?_; clear hK K) | (rw [if_neg (by decide)]; with_reducible refine hK _ ?_; clear hK K) | (refine ⟨_, fun wx hx => (by obtain ⟨f0, f1, f2, f3⟩ := HKC.out wx hx; go_simp; with_reducible rfl), hK _ ?_⟩; clear hK K) | fail | (refine ⟨_, fun _ _ => rfl, hK _ ?_⟩; clear hK K))); with_reducible refine wpQuiet_nil ?_
  intro wq hwq
  have BQ := Lib.hid hwq
  clear hwq ew L K z
  (with_reducible refine wpKeep_step ?_; intro K hK; go_simp)
  refine (HFL.out _ BQ.out).mono ?_
  rintro e w4 ⟨ga, rfl, S4, b4⟩
  have B4 := Lib.hid (BQ.out.trans (b4.mono BQ.out.size))
  have H4 := Lib.hid ((H3.out.grow BQ.out).join S4)
  refine hK _ _ B4.out ?_
  clear hK K S4 b4 HFL H3
  (with_reducible refine wpKeep_step ?_; intro K hK; go_simp; first | (with_reducible refine hK _ _ (B4.out) ?_; clear hK K) | (rw [if_neg (by decide)]; with_reducible refine hK _ _ (B4.out) ?_; clear hK K))
  refine wpKeep_nil ?_
  -- all, list, parts, reply, disk, slices, tracks, last
  obtain ⟨f0, f1, f2, f3⟩ := HKC.out _ B4.out
  have g1 := (row_setN (j := s.next * 4 + 1) (by omega) (by omega) H4.out.s1).2
  have fr1 := g1.1
  have fz := g1.2.1
  have fr2 := (row_setN (j := s.next * 4 + 2) (by omega) (by omega) H4.out.s1).2.1
  have fr3 := (row_setN (j := s.next * 4 + 3) (by omega) (by omega) H4.out.s1).2.1
  obtain ⟨pd, hpd, hpdl⟩ : ∃ pd, pd = padL b (y.key.length + y.data.length) ∧ pd.length = y.key.length + y.data.length := ⟨_, rfl, padL_len _ _⟩
  rw [← hpd] at H4 ⊢
  have HPD := Lib.hid hpdl
  have HPE := Lib.hid hpd
  clear g1 BQ B4 HKC hpd hpdl
  have HRR := Lib.hid (repR_at (x := ⟨y.r, pd.take y.key.length, pd.drop y.key.length, false⟩) HH.out.rv HY.out.1 rfl (by show (pd.take _).length = _; rw [List.length_take, HPD.out]; omega) (by show (pd.drop _).length = _; rw [List.length_drop, HPD.out]; omega))
  have HDR := Lib.hid (show dkRewrite s ⟨y.r, pd.take y.key.length, pd.drop y.key.length, false⟩ = dkDone { dkChange s (repR s.recs ⟨y.r, pd.take y.key.length, pd.drop y.key.length, false⟩) y.r with next := s.next + 1 } [] from rfl)
  generalize hkn : y.key.length = kn at *
  generalize hdn : y.data.length = dn at *
  have HKN := Lib.hid (And.intro hkn hdn)
  clear hkn hdn
  rcases Nat.eq_zero_or_pos dn with hz | hz
  · subst hz
    rw [Nat.add_zero] at H4 HPD
    go_upto_region 5 with fail
    go_big_region
    go_wp2_with fail
    refine name_world (P := fun W => Calls _ _ _ W _) ?_; intro wd hwd
    have h5 := SL.cast hwd ((rw_set3 (vk := .slice (some ⟨ga, 0, none⟩) kn kn) (vd := .slice (some ⟨ga, 0, none⟩) 0 0) (y := ⟨y.r, pd.take kn, pd.drop kn, false⟩) HQ.out.2.1 HQ.out.2.2.1 (by rw [HQ.out.2.2.2.1]) H4.out.s1).drew)
    clear hwd
    -- list, all, parts, reply, disk, slices, tracks, last
    have h6 := rw_close (q := ((.slice (some ⟨ga, 0, none⟩) kn kn, .slice (some ⟨ga, 0, none⟩) 0 0), ⟨y.r, pd.take kn, pd.drop kn, false⟩)) (t := s.recs.set s.next ⟨y.r, pd.take kn, pd.drop kn, false⟩) HQ.out.2.1 (by rw [HQ.out.1]) hcl2 hcm2 (fun W0 w0 G S0 => by
      have hall := rowS_card (l := pd) (c := kn) (by rw [HPD.out]; exact S0.s1)
      refine ⟨_, _, _, _, by simp only [List.length_take, List.length_drop, HPD.out]; first | rw [Nat.min_eq_left (by omega), Nat.add_sub_cancel_left] | rw [Nat.min_self, Nat.sub_self], hall.take kn, ?_⟩
      have h := hall.drop kn (by rw [HPD.out]; omega) (some ⟨ga, 0, none⟩) (by intro h; rw [HPD.out] at h; omega)
      simpa using h) (h5.s2.s1)
    have h7 := selQ_close (s := s) rfl HV.out (h6.s2.s3.s4.s5.b3.b2.s1)
    have H7 := Lib.hid h7
    clear h5 h6 h7 H4
    refine (qchange_any _ _ y.r HH.out H7.out).mono ?_
    rintro e w8 ⟨rfl, S8⟩
    -- disk, reply
    obtain ⟨tb8, old8, a8, n8, S9⟩ := qdisk_open S8
    have H8 := Lib.hid S9
    clear S8 S9 H7
    obtain ⟨L, K, z⟩ := H8.out.look
    have hnx8 : ∀ T, (dkChange s T y.r).next = s.next := fun _ => rfl
    go_wp2_with fail
    refine name_world (P := fun W => Calls _ _ _ W _) ?_; intro wd hwd
    have H9 := Lib.hid (SL.cast hwd (H8.out.set (off := 6) (v := .int .i64 ((s.next : Int) + 1)) (cs' := qCells { dkChange s _ y.r with next := s.next + 1 } tb8 _ old8 a8 n8) rfl))
    clear hwd H8 L K z
    refine (good_any _ _ _ _).mono ?_
    rintro e w9 ⟨rfl, b9⟩
    have H10 := Lib.hid ((H9.out.grow b9).s3)
    clear b9 H9
    (obtain ⟨L, K, z⟩ := H10.out.look; go_wp2; refine bodyPost_ret (v := .agg #[.slice none 0 0, .int .i64 12, .int .i64 0]) (by simp [results, Tryz.results39, go_sem, L]) rfl ?_)
    rw [← HPE.out, HDR.out, HRR.out]
    exact RetQ.of (qdisk_close (s := { dkChange s _ y.r with next := s.next + 1 }) rfl H10.out.set3.drop)
  · have hz2 : ¬ dn = 0 := by omega
    have g1 : ((kn : Int) ≤ (kn : Int) + (dn : Int)) = True := eq_true (by omega)
    have g2 : ((kn : Int) ≤ ((kn + dn : Nat) : Int)) = True := eq_true (by omega)
    go_upto_region 5 with fail
    go_big_region
    go_wp2_with fail
    refine name_world (P := fun W => Calls _ _ _ W _) ?_; intro wd hwd
    have h5 := SL.cast hwd ((rw_set3 (vk := .slice (some ⟨ga, 0, none⟩) kn (kn + dn)) (vd := .slice (some ⟨ga, kn, none⟩) dn dn) (y := ⟨y.r, pd.take kn, pd.drop kn, false⟩) HQ.out.2.1 HQ.out.2.2.1 (by rw [HQ.out.2.2.2.1]) H4.out.s1).drew)
    clear hwd
    -- list, all, parts, reply, disk, slices, tracks, last
    have h6 := rw_close (q := ((.slice (some ⟨ga, 0, none⟩) kn (kn + dn), .slice (some ⟨ga, kn, none⟩) dn dn), ⟨y.r, pd.take kn, pd.drop kn, false⟩)) (t := s.recs.set s.next ⟨y.r, pd.take kn, pd.drop kn, false⟩) HQ.out.2.1 (by rw [HQ.out.1]) hcl2 hcm2 (fun W0 w0 G S0 => by
      have hall := rowS_card (l := pd) (c := kn + dn) (by rw [HPD.out]; exact S0.s1)
      refine ⟨_, _, _, _, by simp only [List.length_take, List.length_drop, HPD.out]; first | rw [Nat.min_eq_left (by omega), Nat.add_sub_cancel_left] | rw [Nat.min_self, Nat.sub_self], hall.take kn, ?_⟩
      have h := hall.drop kn (by rw [HPD.out]; omega) (some ⟨ga, kn, none⟩) (by intro h; simp)
      rw [Nat.add_sub_cancel_left] at h; exact h) (h5.s2.s1)
    have h7 := selQ_close (s := s) rfl HV.out (h6.s2.s3.s4.s5.b3.b2.s1)
    have H7 := Lib.hid h7
    clear h5 h6 h7 H4
    refine (qchange_any _ _ y.r HH.out H7.out).mono ?_
    rintro e w8 ⟨rfl, S8⟩
    -- disk, reply
    obtain ⟨tb8, old8, a8, n8, S9⟩ := qdisk_open S8
    have H8 := Lib.hid S9
    clear S8 S9 H7
    obtain ⟨L, K, z⟩ := H8.out.look
    have hnx8 : ∀ T, (dkChange s T y.r).next = s.next := fun _ => rfl
    go_wp2_with fail
    refine name_world (P := fun W => Calls _ _ _ W _) ?_; intro wd hwd
    have H9 := Lib.hid (SL.cast hwd (H8.out.set (off := 6) (v := .int .i64 ((s.next : Int) + 1)) (cs' := qCells { dkChange s _ y.r with next := s.next + 1 } tb8 _ old8 a8 n8) rfl))
    clear hwd H8 L K z
    refine (good_any _ _ _ _).mono ?_
    rintro e w9 ⟨rfl, b9⟩
    have H10 := Lib.hid ((H9.out.grow b9).s3)
    clear b9 H9
    (obtain ⟨L, K, z⟩ := H10.out.look; go_wp2; refine bodyPost_ret (v := .agg #[.slice none 0 0, .int .i64 12, .int .i64 0]) (by simp [results, Tryz.results39, go_sem, L]) rfl ?_)
    rw [← HPE.out, HDR.out, HRR.out]
    exact RetQ.of (qdisk_close (s := { dkChange s _ y.r with next := s.next + 1 }) rfl H10.out.set3.drop)
set_option maxRecDepth 100000 in
set_option maxHeartbeats 16000000 in
theorem qrewrite_data (A : Option Addr) (b : List UInt8) (c : Nat) (y : Rec) (hy : s.recs[s.next]? = some y) (hd : CardB W F A b c) (h : s.ok) (S : SL W (qdiskS x s :: F) w) : Calls Tryz.prog 39 #[.pointer (some ⟨x, 0, none⟩), .slice A b.length c, .bool false] w (RetQ W F x (dkRewrite s ⟨y.r, y.key, padL b y.data.length, false⟩)) := by
  have hhl := h.here_lt
  have hnx := h.nx
  have HDB := Lib.hid hd
  have HY := Lib.hid (And.intro hy (valid_rec h.rv hy))
  have hnl := (List.getElem?_eq_some_iff.1 hy).1
  obtain ⟨tb, old, a, n, vs, A0, c0, hv0, hva, hvz, hlc, hcm, S1⟩ := selQ_open h S; have HS := Lib.hid S1; have HV := Lib.hid hv0; have HVZ := Lib.hid (And.intro hva hvz); have HH := Lib.hid h; have hrl := h.rl; clear S S1 h hv0 hva hvz
  clear hd hy
  (go_enter Tryz.func39, Tryz.ntmps39; go_upto_region 1 with fail; refine name_world (P := Code.wp _ _ _ _) ?_; intro wA hwA; have H1 := Lib.hid (SL.cast hwA (HS.out.allocC #[.slice none 0 0, .int .i64 0, .int .i64 0] 53)); clear hwA HS; generalize w.heap.size = rb at *)
  obtain ⟨L, K, z⟩ := H1.out.s1.look
  obtain ⟨L2, K2, z2⟩ := H1.out.s2.look
  have hqv := (L2 s.here).trans HVZ.out.1
  have hhi : (s.here : Int) < (s.tracks.length : Int) := by omega
  have HX := Lib.hid (fun (wx : World) (hx : Below wA.heap.size wA wx) => (⟨(hx.cell (p := ⟨x, 3, none⟩) z).trans (L 3), (hx.cell (p := ⟨tb, s.here, none⟩) z2).trans hqv⟩ : wx.cell? ⟨x, 3, none⟩ = some (.slice (some ⟨tb, 0, none⟩) s.tracks.length s.tracks.length) ∧ wx.cell? ⟨tb, s.here, none⟩ = some (.slice A0 s.recs.length c0)))
  have HC := Lib.hid (fun (wx : World) (hx : Below wA.heap.size wA wx) => qhere_b HH.out (H1.out.s1.grow hx))
  clear L K z L2 K2 z2 hqv
  refine wp_region_order (fun wx => Below wA.heap.size wA wx) [] [] [0, 1, 2, 3, 4, 5, 6, 7] [8, 9] [] (by kernel_rfl) (by kernel_rfl) (Below.refl _ _).drew (by intro c a d v w h; cases d <;> exact h) ?_
  simp only [pick, List.filterMap_cons, List.filterMap_nil, List.getElem?_cons_zero, List.getElem?_cons_succ]
  refine wpPure_nil ?_
  refine wpLoads_nil ?_
  (repeat (with_reducible refine wpQuiet_step ?_; intro K hK; go_simp; first | (with_reducible refine hK _ ?_; clear hK K) | (rw [if_neg (by decide)]; with_reducible refine hK _ ?_; clear hK K) | (refine ⟨_, fun wx hx => (by obtain ⟨f0, f1⟩ := HX.out wx hx; go_simp; with_reducible rfl), hK _ ?_⟩; clear hK K) | (refine ⟨_, fun wx hx => (by with_reducible refine (HC.out wx hx).mono ?_; rintro e w' ⟨rfl, h2⟩; exact ⟨rfl, hx.trans (h2.mono hx.size)⟩), hK _ ?_⟩; clear hK K) | (refine ⟨_, fun _ _ => rfl, hK _ ?_⟩; clear hK K))); with_reducible refine wpQuiet_nil ?_
  intro wq hwq
  have BQ := Lib.hid hwq
  clear hwq HX HC
  have hat := trackQ_at ((H1.out.grow BQ.out).s3.take HVZ.out.2)
  have HCP := Lib.hid (rcopy_any A0 s.recs c0 (SL.start wq) (fun wx Sx => hat.grow Sx.below) (valid_fit2 HH.out.rv))
  clear hat
  (with_reducible refine wpKeep_step ?_; intro K hK; go_simp)
  refine HCP.out.mono ?_
  rintro e w2 ⟨A2, c2, rfl, S2⟩
  have B2 := Lib.hid (BQ.out.trans (S2.below.mono BQ.out.size))
  have h2 := (H1.out.grow BQ.out).join S2
  refine hK _ _ B2.out ?_
  clear hK K S2 HCP
  (with_reducible refine wpKeep_step ?_; intro K hK; go_simp; first | (with_reducible refine hK _ _ (B2.out) ?_; clear hK K) | (rw [if_neg (by decide)]; with_reducible refine hK _ _ (B2.out) ?_; clear hK K))
  refine wpKeep_nil ?_
  obtain ⟨_, _, e0, hcl2, hcm2⟩ := recsS_len h2
  injection e0 with e1 _ e0
  subst e1
  subst e0
  obtain ⟨ps, hps, S3⟩ := recsS_open h2
  have hpl : ps.length = s.recs.length := by rw [← hps, List.length_map]
  rw [hpl] at S3
  obtain ⟨q, hq, hq2⟩ : ∃ q, ps[s.next]? = some q ∧ q.2 = y := by
    have h := HY.out.1
    rw [← hps, List.getElem?_map] at h
    exact Option.map_eq_some_iff.1 h
  obtain ⟨Ak, ck, Ad, cd, eq1, _, _⟩ := recO_v S3.s1 q (List.mem_iff_getElem?.2 ⟨_, hq⟩)
  have hcc := fun j (hj : j < 4) => recCells_get ps s.next j q hq hj
  obtain ⟨g, hA, _, c0'⟩ := S3.cellAt (j := s.next * 4 + 0) (u := .int .i64 q.2.r) (by rw [hcc 0 (by omega)]; rfl)
  subst hA
  have k1 := (row_setN (j := s.next * 4 + 1) (by omega) (by omega) S3).1.trans ((hcc 1 (by omega)).trans (show (recCells q)[1]? = some q.1.1 from rfl))
  have k2 := (row_setN (j := s.next * 4 + 2) (by omega) (by omega) S3).1.trans ((hcc 2 (by omega)).trans (show (recCells q)[2]? = some q.1.2 from rfl))
  have k3 := (row_setN (j := s.next * 4 + 3) (by omega) (by omega) S3).1.trans ((hcc 3 (by omega)).trans (show (recCells q)[3]? = some (.bool q.2.bad) from rfl))
  have z3 := (row_setN (j := s.next * 4 + 3) (by omega) (by omega) S3).2.2.1
  rw [hq2] at c0' k3
  rw [eq1] at k1 k2
  rw [hq2] at k1 k2
  rw [Nat.add_zero] at c0'
  have HQ := Lib.hid (And.intro hps (And.intro hpl (And.intro hq (And.intro hq2 eq1))))
  have H3 := Lib.hid S3
  have HKC := Lib.hid (fun (wx : World) (hx : Below w2.heap.size w2 wx) => (⟨(hx.cell (p := ⟨g, s.next * 4, none⟩) z3).trans c0', (hx.cell (p := ⟨g, s.next * 4 + 1, none⟩) z3).trans k1, (hx.cell (p := ⟨g, s.next * 4 + 2, none⟩) z3).trans k2, (hx.cell (p := ⟨g, s.next * 4 + 3, none⟩) z3).trans k3⟩ :
    wx.cell? ⟨g, s.next * 4, none⟩ = some (.int .i64 y.r) ∧ wx.cell? ⟨g, s.next * 4 + 1, none⟩ = some (.slice Ak y.key.length ck) ∧ wx.cell? ⟨g, s.next * 4 + 2, none⟩ = some (.slice Ad y.data.length cd) ∧ wx.cell? ⟨g, s.next * 4 + 3, none⟩ = some (.bool y.bad)))
  clear h2 H1 BQ B2 S3 hps hpl hq hq2 eq1 hcc c0' k1 k2 k3
  -- list, parts, reply, disk, slices, tracks, last
  obtain ⟨L, K, z⟩ := H3.out.s3.look
  have hni : (s.next : Int) < (s.recs.length : Int) := by omega
  obtain ⟨_, hkl1, hkl, hdl⟩ := HY.out.2

  have HFL := Lib.hid (fill_any A b b.length c y.data.length rfl (HDB.out w2 H3.out.drop.drop.drop.drop.drop.drop.drop) (by omega) H3.out)
  obtain ⟨f0, f1, f2, f3⟩ := HKC.out w2 (Below.refl _ _)
  go_wp2_with fail
  refine HFL.out.mono ?_
  rintro e w4 ⟨ga, rfl, S4, b4⟩
  have H4 := Lib.hid S4
  obtain ⟨d0, d1, d2, d3⟩ := HKC.out _ b4
  clear S4 HFL H3 f0 f1 f2 f3 L K z b4
  -- all, list, parts, reply, disk, slices, tracks, last
  have g1 := (row_setN (j := s.next * 4 + 2) (by omega) (by omega) H4.out.s1).2
  have fr2 := g1.1
  have fz := g1.2.1
  have fr3 := (row_setN (j := s.next * 4 + 3) (by omega) (by omega) H4.out.s1).2.1
  have HPD := Lib.hid (padL_len b y.data.length)
  have HRR := Lib.hid (repR_at (x := ⟨y.r, y.key, padL b y.data.length, false⟩) HH.out.rv HY.out.1 rfl rfl HPD.out)
  have HDR := Lib.hid (show dkRewrite s ⟨y.r, y.key, padL b y.data.length, false⟩ = dkDone { dkChange s (repR s.recs ⟨y.r, y.key, padL b y.data.length, false⟩) y.r with next := s.next + 1 } [] from rfl)
  clear g1 HKC
  go_wp2_with fail
  refine name_world (P := fun W => Calls _ _ _ W _) ?_; intro wd hwd
  have h5 := SL.cast hwd (rw_set2 (vd := .slice (some ⟨ga, 0, none⟩) y.data.length y.data.length) (y := ⟨y.r, y.key, padL b y.data.length, false⟩) HQ.out.2.1 HQ.out.2.2.1 (by rw [HQ.out.2.2.2.1]) H4.out.s1)
  clear hwd
  have h6 := rw_close (q := ((_, .slice (some ⟨ga, 0, none⟩) y.data.length y.data.length), ⟨y.r, y.key, padL b y.data.length, false⟩)) (t := s.recs.set s.next ⟨y.r, y.key, padL b y.data.length, false⟩) HQ.out.2.1 (by rw [HQ.out.1]) hcl2 hcm2 (fun W0 w0 G S0 => by
      obtain ⟨Ak', ck', Ad', cd', e1, h1, _⟩ := recO_v S0 _ (List.mem_iff_getElem?.2 ⟨_, HQ.out.2.2.1⟩)
      have hall := rowS_card (l := padL b y.data.length) (c := y.data.length) (by rw [HPD.out]; exact S0.s1)
      rw [HQ.out.2.2.2.1] at e1 h1
      exact ⟨Ak', ck', _, _, by rw [e1]; simp only [HPD.out], h1, hall⟩) (h5.s2.s1)
  have h7 := selQ_close (s := s) rfl HV.out (h6.s2.s3.s4.s5.b3.b2.s1)
  have H7 := Lib.hid h7
  clear h5 h6 h7 H4
  refine (qchange_any _ _ y.r HH.out H7.out).mono ?_
  rintro e w8 ⟨rfl, S8⟩
  -- disk, reply
  obtain ⟨tb8, old8, a8, n8, S9⟩ := qdisk_open S8
  have H8 := Lib.hid S9
  clear S8 S9 H7
  obtain ⟨L, K, z⟩ := H8.out.look
  have hnx8 : ∀ T, (dkChange s T y.r).next = s.next := fun _ => rfl
  go_wp2_with fail
  refine name_world (P := fun W => Calls _ _ _ W _) ?_; intro wd hwd
  have H9 := Lib.hid (SL.cast hwd (H8.out.set (off := 6) (v := .int .i64 ((s.next : Int) + 1)) (cs' := qCells { dkChange s _ y.r with next := s.next + 1 } tb8 _ old8 a8 n8) rfl))
  clear hwd H8 L K z
  refine (good_any _ _ _ _).mono ?_
  rintro e w9 ⟨rfl, b9⟩
  have H10 := Lib.hid ((H9.out.grow b9).s3)
  clear b9 H9
  (obtain ⟨L, K, z⟩ := H10.out.look; go_wp2; refine bodyPost_ret (v := .agg #[.slice none 0 0, .int .i64 12, .int .i64 0]) (by simp [results, Tryz.results39, go_sem, L]) rfl ?_)
  rw [HDR.out, HRR.out]
  exact RetQ.of (qdisk_close (s := { dkChange s _ y.r with next := s.next + 1 }) rfl H10.out.set3.drop)
end
end Go.Proofs.YtmkndbledppniaaGreat
