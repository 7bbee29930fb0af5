/- media: a tape. -/
import Derived.Test.YtfhpaehfihnjaaaGreatMedB
namespace Go.Proofs.YtfhpaehfihnjaaaGreat
open Go.RowKit
section
variable {W w : World} {F : List SA} {x y : Nat} {v v2 : Value} {bs bq : List (Nat × Nat)} {s : ST} {i k : Nat}
set_option maxRecDepth 100000 in
set_option maxHeartbeats 32000000 in
theorem media_tape {u : UN} {qb qdb : Nat} {nm : ByteArray} {p : T.TP} (ok : s.ok k) (_ : k ≤ 10000000) (hu : s.us[i]? = some u) (hd : u.dev = .tape nm p) (hq : bq[i]? = some (qb, qdb)) (S : SL W (qsetO y v2 bq s :: setO x v bs s :: F) w) :
    Calls Tryz.prog 13 #[.pointer (some ⟨x, 0, none⟩), .pointer (some ⟨qb, 0, none⟩)] w fun e w' => e = .returned (.bool true) ∧ SL W (qsetO y v2 bq s :: setO x v bs s :: F) w' := by
  have hb := (set_open S.s1).1
  obtain ⟨b, db, hp⟩ := bs_get hb hu
  obtain ⟨hbq, SQ⟩ := qdev_open hq hu S
  have hkind := (ok.us u (List.mem_of_getElem? hu)).kind
  have hdok := (ok.us u (List.mem_of_getElem? hu)).dev
  rw [hd] at hkind hdok SQ
  rw [show (Dev.tape nm p).kind = 4 from rfl] at hkind
  obtain ⟨q, hqf, SR⟩ := T.qS_open SQ
  have HQ := Lib.hid SR
  have HQF := Lib.hid hqf
  clear SR hqf
  have HG := Lib.hid (fun (wx : World) (hx : SL W (cel qdb (T.qcells nm p q) 113 :: T.blksS q.v p.bs :: T.blksS q.vo q.obs :: cel qb (qoneCells qdb u) 45 :: star ((List.zipWith qoneS bq s.us).eraseIdx i) :: cel y #[v2, .bool s.off] 38 :: rowS 31 1 v2 s.us.length (ptrs bq) :: setO x v bs s :: F) wx) => (by
    obtain ⟨g0, g1, g2, g3, g4, g5⟩ := getters ok hu hp hx.drop.s6
    rw [hd] at g1 g2 g3 g4 g5
    rw [show (Dev.tape nm p).kind = 4 from rfl] at g1 g2 g3 g4 g5
    rw [hkind] at g0
    rw [if_neg (by decide)] at g1
    rw [if_neg (by decide)] at g2
    rw [if_neg (by decide)] at g3
    rw [if_pos rfl] at g4
    rw [if_neg (by decide)] at g5
    exact ⟨g0, g1, g2, g3, g4, g5⟩ : Calls Tryz.prog 11 #[.pointer (some ⟨x, 0, none⟩), .int .i64 u.conf.addr] wx (fun e w' => e = .returned (.int .i64 4) ∧ w' = wx) ∧ Calls Tryz.prog 29 #[.pointer (some ⟨x, 0, none⟩), .int .i64 u.conf.addr] wx (fun e w' => e = .returned (.pointer none) ∧ w' = wx) ∧ Calls Tryz.prog 30 #[.pointer (some ⟨x, 0, none⟩), .int .i64 u.conf.addr] wx (fun e w' => e = .returned (.pointer none) ∧ w' = wx) ∧ Calls Tryz.prog 31 #[.pointer (some ⟨x, 0, none⟩), .int .i64 u.conf.addr] wx (fun e w' => e = .returned (.pointer none) ∧ w' = wx) ∧ Calls Tryz.prog 19 #[.pointer (some ⟨x, 0, none⟩), .int .i64 u.conf.addr] wx (fun e w' => e = .returned (.pointer (some ⟨db, 0, none⟩)) ∧ w' = wx) ∧ Calls Tryz.prog 32 #[.pointer (some ⟨x, 0, none⟩), .int .i64 u.conf.addr] wx (fun e w' => e = .returned (.pointer none) ∧ w' = wx)))
  have HL := Lib.hid (fun (wx : World) (hx : SL W (cel qdb (T.qcells nm p q) 113 :: T.blksS q.v p.bs :: T.blksS q.vo q.obs :: cel qb (qoneCells qdb u) 45 :: star ((List.zipWith qoneS bq s.us).eraseIdx i) :: cel y #[v2, .bool s.off] 38 :: rowS 31 1 v2 s.us.length (ptrs bq) :: setO x v bs s :: F) wx) => (by
    have L := hx.drop.drop.drop.look.1
    exact ⟨L 0, (L 1).trans (by show some (Value.int .i64 u.conf.kind) = _; rw [hkind]), (L 2).trans (by show some (qPtr 1 qdb u.dev) = _; rw [hd]; rfl), (L 3).trans (by show some (qPtr 2 qdb u.dev) = _; rw [hd]; rfl), (L 4).trans (by show some (qPtr 3 qdb u.dev) = _; rw [hd]; rfl), (L 5).trans (by show some (qPtr 4 qdb u.dev) = _; rw [hd]; rfl), (L 6).trans (by show some (qPtr 5 qdb u.dev) = _; rw [hd]; rfl)⟩ : wx.cell? ⟨qb, 0, none⟩ = some (.int .i64 u.conf.addr) ∧ wx.cell? ⟨qb, 1, none⟩ = some (.int .i64 4) ∧ wx.cell? ⟨qb, 2, none⟩ = some (.pointer none) ∧ wx.cell? ⟨qb, 3, none⟩ = some (.pointer none) ∧ wx.cell? ⟨qb, 4, none⟩ = some (.pointer none) ∧ wx.cell? ⟨qb, 5, none⟩ = some (.pointer (some ⟨qdb, 0, none⟩)) ∧ wx.cell? ⟨qb, 6, none⟩ = some (.pointer none)))
  have HOK := Lib.hid ok
  have HDK := Lib.hid hdok
  have HB := Lib.hid (And.intro hb (And.intro hp (And.intro hbq hq)))
  have HU := Lib.hid hu
  have HD := Lib.hid hd
  clear SQ S hb hp hbq hq hkind hdok ok hu hd
  obtain ⟨e0, e1, e2, e3, e4, e5, e6⟩ := HL.out _ HQ.out
  obtain ⟨ca, hca⟩ : ∃ c, c = u.conf.addr := ⟨_, rfl⟩
  have HCA := Lib.hid hca
  rw [← hca] at HG HL e0
  clear hca
  go_enter Tryz.func13, Tryz.ntmps13
  go_upto_region 2 with fail
  refine wp_region_quiet (C := SL W (cel qdb (T.qcells nm p q) 113 :: T.blksS q.v p.bs :: T.blksS q.vo q.obs :: cel qb (qoneCells qdb u) 45 :: star ((List.zipWith qoneS bq s.us).eraseIdx i) :: cel y #[v2, .bool s.off] 38 :: rowS 31 1 v2 s.us.length (ptrs bq) :: setO x v bs s :: F)) (by kernel_rfl) (by kernel_rfl) HQ.out.drew ?_
  simp only [List.append_eq, List.cons_append, List.nil_append]
  (repeat (with_reducible refine wpQuiet_step ?_; intro K hK; go_simp; first | (with_reducible refine hK _ ?_; clear hK K) | (rw [if_neg (by decide)]; with_reducible refine hK _ ?_; clear hK K) | (refine ⟨_, fun wx hx => (by obtain ⟨f0, f1, f2, f3, f4, f5, f6⟩ := HL.out wx hx; go_simp; with_reducible rfl), hK _ ?_⟩; clear hK K) | (first | (refine ⟨_, fun wx hx => (by with_reducible refine ((HG.out wx hx).1).mono ?_; rintro e w' ⟨rfl, hw⟩; exact ⟨rfl, by rw [hw]; exact hx⟩), hK _ ?_⟩; clear hK K) | (refine ⟨_, fun wx hx => (by with_reducible refine ((HG.out wx hx).2.1).mono ?_; rintro e w' ⟨rfl, hw⟩; exact ⟨rfl, by rw [hw]; exact hx⟩), hK _ ?_⟩; clear hK K) | (refine ⟨_, fun wx hx => (by with_reducible refine ((HG.out wx hx).2.2.1).mono ?_; rintro e w' ⟨rfl, hw⟩; exact ⟨rfl, by rw [hw]; exact hx⟩), hK _ ?_⟩; clear hK K) | (refine ⟨_, fun wx hx => (by with_reducible refine ((HG.out wx hx).2.2.2.1).mono ?_; rintro e w' ⟨rfl, hw⟩; exact ⟨rfl, by rw [hw]; exact hx⟩), hK _ ?_⟩; clear hK K) | (refine ⟨_, fun wx hx => (by with_reducible refine ((HG.out wx hx).2.2.2.2.1).mono ?_; rintro e w' ⟨rfl, hw⟩; exact ⟨rfl, by rw [hw]; exact hx⟩), hK _ ?_⟩; clear hK K) | (refine ⟨_, fun wx hx => (by with_reducible refine ((HG.out wx hx).2.2.2.2.2).mono ?_; rintro e w' ⟨rfl, hw⟩; exact ⟨rfl, by rw [hw]; exact hx⟩), hK _ ?_⟩; clear hK K)) | (refine ⟨_, fun _ _ => rfl, hK _ ?_⟩; clear hK K))); with_reducible refine wpQuiet_nil ?_
  intro w4 S4
  have H4 := Lib.hid S4
  clear S4 HQ e0 e1 e2 e3 e4 e5 e6
  obtain ⟨e0, e1, e2, e3, e4, e5, e6⟩ := HL.out _ H4.out
  as_aux_lemma =>
    obtain ⟨Aq, cq, hqv, _, _⟩ := T.blksS_slice H4.out.s1
    have HF := Lib.hid (fun (wx : World) (hx : SL W (cel qdb (T.qcells nm p q) 113 :: T.blksS q.v p.bs :: T.blksS q.vo q.obs :: cel qb (qoneCells qdb u) 45 :: star ((List.zipWith qoneS bq s.us).eraseIdx i) :: cel y #[v2, .bool s.off] 38 :: rowS 31 1 v2 s.us.length (ptrs bq) :: setO x v bs s :: F) wx) => (⟨hx.look.1 0, (hx.look.1 1).trans (by show some q.v = _; rw [hqv]), hx.look.1 2, hx.look.1 3⟩ : wx.cell? ⟨qdb, 0, none⟩ = some (.string nm) ∧ wx.cell? ⟨qdb, 1, none⟩ = some (.slice Aq p.bs.length cq) ∧ wx.cell? ⟨qdb, 2, none⟩ = some (.int .i64 (p.pos : Int)) ∧ wx.cell? ⟨qdb, 3, none⟩ = some (.bool p.loaded)))
    have HQV := Lib.hid hqv
    clear hqv
    have HPB := Lib.hid (show p.bs.length ≤ 1048576 from by have := HDK.out.2.1.fit.1; omega)
    have HC := H4
    clear H4
    go_upto_region 26 with fail
    try simp only [List.append_eq, List.cons_append, List.nil_append, List.toList_toArray]
    clear e0 e1 e2 e3 e4 e5 e6
    refine wp_region_stages (SL W (cel qdb (T.qcells nm p q) 113 :: T.blksS q.v p.bs :: T.blksS q.vo q.obs :: cel qb (qoneCells qdb u) 45 :: star ((List.zipWith qoneS bq s.us).eraseIdx i) :: cel y #[v2, .bool s.off] 38 :: rowS 31 1 v2 s.us.length (ptrs bq) :: setO x v bs s :: F)) [] [([0, 1, 4, 5, 6, 7, 8, 9, 10], [2, 3, 11, 12]), ([13, 14, 17, 18, 19, 20, 21, 22, 23], [15, 16, 24, 25, 26]), ([27, 28, 31, 32, 33, 34, 35, 36, 37], [29, 30, 38, 39, 40]), ([41, 42, 45, 46, 47, 48, 49, 50, 51], [43, 44, 52, 53, 54])] [] (by kernel_rfl) (by kernel_rfl) HC.out.drew (by intro c a d v w h; cases d <;> exact h) ?_
    simp only [pick, List.filterMap_nil]
    refine wpPure_nil ?_
    have HN := Lib.hid HC.out.drew
    clear HC
    have HC := HN
    clear HN
    (with_reducible refine wpStages_step (HC.out) ?_); simp only [pick, List.filterMap_cons, List.filterMap_nil, List.getElem?_cons_zero, List.getElem?_cons_succ]
    (repeat (with_reducible refine wpLoads_step ?_; intro K hK; go_simp; first | (with_reducible refine hK _ ?_; clear hK K) | (rw [if_neg (by decide)]; with_reducible refine hK _ ?_; clear hK K) | (refine ⟨_, fun wx hx => (by obtain ⟨f0, f1, f2, f3, f4, f5, f6⟩ := HL.out wx hx; obtain ⟨h0, h1, h2, h3⟩ := HF.out wx hx; go_simp; with_reducible rfl), hK _ ?_⟩; clear hK K) | (refine ⟨_, fun _ _ => rfl, hK _ ?_⟩; clear hK K))); with_reducible refine wpLoads_nil ?_
    (with_reducible refine wpKeep_step ?_; intro K hK; go_simp)
    refine ((HG.out _ HC.out).2.2.2.2.1).mono ?_
    rintro e wn ⟨rfl, hw⟩
    have hw := hw.symm
    subst hw
    refine hK _ _ HC.out ?_
    clear hK K
    (with_reducible refine wpKeep_step ?_; intro K hK; go_simp)
    refine (tserial_view HDK.out.1 HU.out HD.out HB.out.2.1 HB.out.1 HC.out.s7).mono ?_
    rintro e wn ⟨rfl, Sn⟩
    have HN := Lib.hid Sn.b7
    clear Sn HC
    have HC := HN
    clear HN
    refine hK _ _ HC.out ?_
    clear hK K
    (with_reducible refine wpKeep_step ?_; intro K hK; go_simp; first | (with_reducible refine hK _ _ (HC.out) ?_; clear hK K) | (rw [if_neg (by decide)]; with_reducible refine hK _ _ (HC.out) ?_; clear hK K))
    (with_reducible refine wpKeep_step ?_; intro K hK; go_simp; first | (with_reducible refine hK _ _ (HC.out) ?_; clear hK K) | (rw [if_neg (by decide)]; with_reducible refine hK _ _ (HC.out) ?_; clear hK K))
    refine wpKeep_nil ?_
    (with_reducible refine wpStages_step (HC.out) ?_); simp only [pick, List.filterMap_cons, List.filterMap_nil, List.getElem?_cons_zero, List.getElem?_cons_succ]
    (repeat (with_reducible refine wpLoads_step ?_; intro K hK; go_simp; first | (with_reducible refine hK _ ?_; clear hK K) | (rw [if_neg (by decide)]; with_reducible refine hK _ ?_; clear hK K) | (refine ⟨_, fun wx hx => (by obtain ⟨f0, f1, f2, f3, f4, f5, f6⟩ := HL.out wx hx; obtain ⟨h0, h1, h2, h3⟩ := HF.out wx hx; go_simp; with_reducible rfl), hK _ ?_⟩; clear hK K) | (refine ⟨_, fun _ _ => rfl, hK _ ?_⟩; clear hK K))); with_reducible refine wpLoads_nil ?_
    (with_reducible refine wpKeep_step ?_; intro K hK; go_simp)
    refine ((HG.out _ HC.out).2.2.2.2.1).mono ?_
    rintro e wn ⟨rfl, hw⟩
    have hw := hw.symm
    subst hw
    refine hK _ _ HC.out ?_
    clear hK K
    (with_reducible refine wpKeep_step ?_; intro K hK; go_simp)
    refine (tat_view HU.out HD.out HB.out.2.1 HB.out.1 HC.out.s7).mono ?_
    rintro e wn ⟨rfl, Sn⟩
    have HN := Lib.hid Sn.b7
    clear Sn HC
    have HC := HN
    clear HN
    refine hK _ _ HC.out ?_
    clear hK K
    (with_reducible refine wpKeep_step ?_; intro K hK; go_simp; first | (with_reducible refine hK _ _ (HC.out) ?_; clear hK K) | (rw [if_neg (by decide)]; with_reducible refine hK _ _ (HC.out) ?_; clear hK K))
    (with_reducible refine wpKeep_step ?_; intro K hK; go_simp; first | (with_reducible refine hK _ _ (HC.out) ?_; clear hK K) | (rw [if_neg (by decide)]; with_reducible refine hK _ _ (HC.out) ?_; clear hK K))
    (with_reducible refine wpKeep_step ?_; intro K hK; go_simp; first | (with_reducible refine hK _ _ (HC.out) ?_; clear hK K) | (rw [if_neg (by decide)]; with_reducible refine hK _ _ (HC.out) ?_; clear hK K))
    refine wpKeep_nil ?_
    (with_reducible refine wpStages_step (HC.out) ?_); simp only [pick, List.filterMap_cons, List.filterMap_nil, List.getElem?_cons_zero, List.getElem?_cons_succ]
    (repeat (with_reducible refine wpLoads_step ?_; intro K hK; go_simp; first | (with_reducible refine hK _ ?_; clear hK K) | (rw [if_neg (by decide)]; with_reducible refine hK _ ?_; clear hK K) | (refine ⟨_, fun wx hx => (by obtain ⟨f0, f1, f2, f3, f4, f5, f6⟩ := HL.out wx hx; obtain ⟨h0, h1, h2, h3⟩ := HF.out wx hx; go_simp; with_reducible rfl), hK _ ?_⟩; clear hK K) | (refine ⟨_, fun _ _ => rfl, hK _ ?_⟩; clear hK K))); with_reducible refine wpLoads_nil ?_
    (with_reducible refine wpKeep_step ?_; intro K hK; go_simp)
    refine ((HG.out _ HC.out).2.2.2.2.1).mono ?_
    rintro e wn ⟨rfl, hw⟩
    have hw := hw.symm
    subst hw
    refine hK _ _ HC.out ?_
    clear hK K
    (with_reducible refine wpKeep_step ?_; intro K hK; go_simp)
    refine (tloaded_view HU.out HD.out HB.out.2.1 HB.out.1 HC.out.s7).mono ?_
    rintro e wn ⟨rfl, Sn⟩
    have HN := Lib.hid Sn.b7
    clear Sn HC
    have HC := HN
    clear HN
    refine hK _ _ HC.out ?_
    clear hK K
    (with_reducible refine wpKeep_step ?_; intro K hK; go_simp; first | (with_reducible refine hK _ _ (HC.out) ?_; clear hK K) | (rw [if_neg (by decide)]; with_reducible refine hK _ _ (HC.out) ?_; clear hK K))
    (with_reducible refine wpKeep_step ?_; intro K hK; go_simp; first | (with_reducible refine hK _ _ (HC.out) ?_; clear hK K) | (rw [if_neg (by decide)]; with_reducible refine hK _ _ (HC.out) ?_; clear hK K))
    (with_reducible refine wpKeep_step ?_; intro K hK; go_simp; first | (with_reducible refine hK _ _ (HC.out) ?_; clear hK K) | (rw [if_neg (by decide)]; with_reducible refine hK _ _ (HC.out) ?_; clear hK K))
    refine wpKeep_nil ?_
    (with_reducible refine wpStages_step (HC.out) ?_); simp only [pick, List.filterMap_cons, List.filterMap_nil, List.getElem?_cons_zero, List.getElem?_cons_succ]
    (repeat (with_reducible refine wpLoads_step ?_; intro K hK; go_simp; first | (with_reducible refine hK _ ?_; clear hK K) | (rw [if_neg (by decide)]; with_reducible refine hK _ ?_; clear hK K) | (refine ⟨_, fun wx hx => (by obtain ⟨f0, f1, f2, f3, f4, f5, f6⟩ := HL.out wx hx; obtain ⟨h0, h1, h2, h3⟩ := HF.out wx hx; go_simp; with_reducible rfl), hK _ ?_⟩; clear hK K) | (refine ⟨_, fun _ _ => rfl, hK _ ?_⟩; clear hK K))); with_reducible refine wpLoads_nil ?_
    (with_reducible refine wpKeep_step ?_; intro K hK; go_simp)
    refine ((HG.out _ HC.out).2.2.2.2.1).mono ?_
    rintro e wn ⟨rfl, hw⟩
    have hw := hw.symm
    subst hw
    refine hK _ _ HC.out ?_
    clear hK K
    (with_reducible refine wpKeep_step ?_; intro K hK; go_simp)
    refine (tblocks_view HDK.out.2.1 HU.out HD.out HB.out.2.1 HB.out.1 HC.out.s7).mono ?_
    rintro e wn ⟨A7, c7, rfl, Sn⟩
    have H7 := Lib.hid Sn
    clear Sn HC
    refine hK _ _ H7.out.drop.b7 ?_
    clear hK K
    (with_reducible refine wpKeep_step ?_; intro K hK; go_simp)
    have hb1 := T.blksS_at H7.out
    have hb2 := (by
      have h := H7.out.s3
      rw [HQV.out] at h
      exact T.blksS_at h : T.BlksAt wn Aq p.bs)
    refine (blocks_any A7 Aq p.bs c7 cq wn hb1 hb2 HPB.out).mono ?_
    rintro e wm ⟨rfl, bm⟩
    have HC := Lib.hid (H7.out.grow bm).drop.b7
    clear bm hb1 hb2 H7
    refine hK _ _ HC.out ?_
    clear hK K
    (with_reducible refine wpKeep_step ?_; intro K hK; go_simp; first | (with_reducible refine hK _ _ (HC.out) ?_; clear hK K) | (rw [if_neg (by decide)]; with_reducible refine hK _ _ (HC.out) ?_; clear hK K))
    (with_reducible refine wpKeep_step ?_; intro K hK; go_simp; first | (with_reducible refine hK _ _ (HC.out) ?_; clear hK K) | (rw [if_neg (by decide)]; with_reducible refine hK _ _ (HC.out) ?_; clear hK K))
    refine wpKeep_nil ?_
    (with_reducible refine wpStages_nil ?_); simp only [pick, List.filterMap_nil]
    go_wp2
    go_ret
    exact ⟨rfl, qdev_same (u := u) HB.out.2.2.1 HB.out.2.2.2 HU.out (by rw [HD.out]; exact T.qS_close HQF.out HC.out)⟩
end
end Go.Proofs.YtfhpaehfihnjaaaGreat
