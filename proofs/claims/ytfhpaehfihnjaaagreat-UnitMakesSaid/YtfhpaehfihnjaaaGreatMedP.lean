/- media: a punch. -/
import Derived.Test.YtfhpaehfihnjaaaGreatMedB
namespace Go.Proofs.YtfhpaehfihnjaaaGreat
open Go.RowKit
section
variable {W w : World} {F : List SA} {x y : Nat} {v v2 : Value} {bs bq : List (Nat × Nat)} {s : ST} {i k : Nat}
set_option maxRecDepth 100000 in
set_option maxHeartbeats 32000000 in
theorem media_punch {u : UN} {qb qdb : Nat} {se : Nat} {cs : List (List UInt8)} (ok : s.ok k) (_ : k ≤ 10000000) (hu : s.us[i]? = some u) (hd : u.dev = .punch se cs) (hq : bq[i]? = some (qb, qdb)) (S : SL W (qsetO y v2 bq s :: setO x v bs s :: F) w) :
    Calls Tryz.prog 13 #[.pointer (some ⟨x, 0, none⟩), .pointer (some ⟨qb, 0, none⟩)] w fun e w' => e = .returned (.bool true) ∧ SL W (qsetO y v2 bq s :: setO x v bs s :: F) w' := by
  have hb := (set_open S.s1).1
  obtain ⟨b, db, hp⟩ := bs_get hb hu
  obtain ⟨hbq, SQ⟩ := qdev_open hq hu S
  have hkind := (ok.us u (List.mem_of_getElem? hu)).kind
  have hdok := (ok.us u (List.mem_of_getElem? hu)).dev
  rw [hd] at hkind hdok SQ
  rw [show (Dev.punch se cs).kind = 2 from rfl] at hkind
  obtain ⟨dv, _, SR⟩ := U.qunS_open SQ
  obtain ⟨ps, hps, SR2⟩ := U.deckS_open SR.s1
  obtain ⟨n, hn⟩ : ∃ n, n = ps.length := ⟨_, rfl⟩
  rw [← hn] at SR2
  obtain ⟨Aq, cq, rfl, hqc, hqm⟩ := own_slice SR2.own
  have HQ := Lib.hid SR2.s2
  have HN := Lib.hid (And.intro hps (show cs.length = n from by rw [← hps, hn]; simp))
  have HC80 := Lib.hid (show ∀ c ∈ cs, c.length = 80 from hdok.2.2)
  have hn4 : n ≤ 4096 := by have := hdok.2.1; rw [HN.out.2] at this; exact this
  clear SR SR2 hps hn
  have HG := Lib.hid (fun (wx : World) (hx : SL W (cel qdb #[.slice Aq n cq, .int .i64 (se : Int)] 100 :: rowS 50 1 (.slice Aq n cq) n (ps.map Prod.fst) :: star (ps.map U.cardS) :: cel qb (qoneCells qdb u) 45 :: star ((List.zipWith qoneS bq s.us).eraseIdx i) :: cel y #[v2, .bool s.off] 38 :: rowS 31 1 v2 s.us.length (ptrs bq) :: setO x v bs s :: F) wx) => (by
    obtain ⟨g0, g1, g2, g3, g4, g5⟩ := getters ok hu hp hx.drop.s6
    rw [hd] at g1 g2 g3 g4 g5
    rw [show (Dev.punch se cs).kind = 2 from rfl] at g1 g2 g3 g4 g5
    rw [hkind] at g0
    rw [if_neg (by decide)] at g1
    rw [if_pos rfl] at g2
    rw [if_neg (by decide)] at g3
    rw [if_neg (by decide)] at g4
    rw [if_neg (by decide)] at g5
    exact ⟨g0, g1, g2, g3, g4, g5⟩ : Calls Tryz.prog 11 #[.pointer (some ⟨x, 0, none⟩), .int .i64 u.conf.addr] wx (fun e w' => e = .returned (.int .i64 2) ∧ w' = wx) ∧ Calls Tryz.prog 29 #[.pointer (some ⟨x, 0, none⟩), .int .i64 u.conf.addr] wx (fun e w' => e = .returned (.pointer none) ∧ w' = wx) ∧ Calls Tryz.prog 30 #[.pointer (some ⟨x, 0, none⟩), .int .i64 u.conf.addr] wx (fun e w' => e = .returned (.pointer (some ⟨db, 0, none⟩)) ∧ w' = wx) ∧ Calls Tryz.prog 31 #[.pointer (some ⟨x, 0, none⟩), .int .i64 u.conf.addr] wx (fun e w' => e = .returned (.pointer none) ∧ w' = wx) ∧ Calls Tryz.prog 19 #[.pointer (some ⟨x, 0, none⟩), .int .i64 u.conf.addr] wx (fun e w' => e = .returned (.pointer none) ∧ w' = wx) ∧ Calls Tryz.prog 32 #[.pointer (some ⟨x, 0, none⟩), .int .i64 u.conf.addr] wx (fun e w' => e = .returned (.pointer none) ∧ w' = wx)))
  have HL := Lib.hid (fun (wx : World) (hx : SL W (cel qdb #[.slice Aq n cq, .int .i64 (se : Int)] 100 :: rowS 50 1 (.slice Aq n cq) n (ps.map Prod.fst) :: star (ps.map U.cardS) :: cel qb (qoneCells qdb u) 45 :: star ((List.zipWith qoneS bq s.us).eraseIdx i) :: cel y #[v2, .bool s.off] 38 :: rowS 31 1 v2 s.us.length (ptrs bq) :: setO x v bs s :: F) wx) => (by
    have L := hx.drop.drop.drop.look.1
    exact ⟨L 0, (L 1).trans (by show some (Value.int .i64 u.conf.kind) = _; rw [hkind]), (L 2).trans (by show some (qPtr 1 qdb u.dev) = _; rw [hd]; rfl), (L 3).trans (by show some (qPtr 2 qdb u.dev) = _; rw [hd]; rfl), (L 4).trans (by show some (qPtr 3 qdb u.dev) = _; rw [hd]; rfl), (L 5).trans (by show some (qPtr 4 qdb u.dev) = _; rw [hd]; rfl), (L 6).trans (by show some (qPtr 5 qdb u.dev) = _; rw [hd]; rfl)⟩ : wx.cell? ⟨qb, 0, none⟩ = some (.int .i64 u.conf.addr) ∧ wx.cell? ⟨qb, 1, none⟩ = some (.int .i64 2) ∧ wx.cell? ⟨qb, 2, none⟩ = some (.pointer none) ∧ wx.cell? ⟨qb, 3, none⟩ = some (.pointer (some ⟨qdb, 0, none⟩)) ∧ wx.cell? ⟨qb, 4, none⟩ = some (.pointer none) ∧ wx.cell? ⟨qb, 5, none⟩ = some (.pointer none) ∧ wx.cell? ⟨qb, 6, none⟩ = some (.pointer none)))
  have HOK := Lib.hid ok
  have HDK := Lib.hid hdok
  have HB := Lib.hid (And.intro hb (And.intro hp (And.intro hbq hq)))
  have HU := Lib.hid hu
  have HD := Lib.hid hd
  clear SQ S hb hp hbq hq hkind hdok ok hu hd
  obtain ⟨e0, e1, e2, e3, e4, e5, e6⟩ := HL.out _ HQ.out
  obtain ⟨ca, hca⟩ : ∃ c, c = u.conf.addr := ⟨_, rfl⟩
  have HCA := Lib.hid hca
  rw [← hca] at HG HL e0
  clear hca
  go_enter Tryz.func13, Tryz.ntmps13
  go_upto_region 2 with fail
  refine wp_region_quiet (C := SL W (cel qdb #[.slice Aq n cq, .int .i64 (se : Int)] 100 :: rowS 50 1 (.slice Aq n cq) n (ps.map Prod.fst) :: star (ps.map U.cardS) :: cel qb (qoneCells qdb u) 45 :: star ((List.zipWith qoneS bq s.us).eraseIdx i) :: cel y #[v2, .bool s.off] 38 :: rowS 31 1 v2 s.us.length (ptrs bq) :: setO x v bs s :: F)) (by kernel_rfl) (by kernel_rfl) HQ.out.drew ?_
  simp only [List.append_eq, List.cons_append, List.nil_append]
  (repeat (with_reducible refine wpQuiet_step ?_; intro K hK; go_simp; first | (with_reducible refine hK _ ?_; clear hK K) | (rw [if_neg (by decide)]; with_reducible refine hK _ ?_; clear hK K) | (refine ⟨_, fun wx hx => (by obtain ⟨f0, f1, f2, f3, f4, f5, f6⟩ := HL.out wx hx; go_simp; with_reducible rfl), hK _ ?_⟩; clear hK K) | (first | (refine ⟨_, fun wx hx => (by with_reducible refine ((HG.out wx hx).1).mono ?_; rintro e w' ⟨rfl, hw⟩; exact ⟨rfl, by rw [hw]; exact hx⟩), hK _ ?_⟩; clear hK K) | (refine ⟨_, fun wx hx => (by with_reducible refine ((HG.out wx hx).2.1).mono ?_; rintro e w' ⟨rfl, hw⟩; exact ⟨rfl, by rw [hw]; exact hx⟩), hK _ ?_⟩; clear hK K) | (refine ⟨_, fun wx hx => (by with_reducible refine ((HG.out wx hx).2.2.1).mono ?_; rintro e w' ⟨rfl, hw⟩; exact ⟨rfl, by rw [hw]; exact hx⟩), hK _ ?_⟩; clear hK K) | (refine ⟨_, fun wx hx => (by with_reducible refine ((HG.out wx hx).2.2.2.1).mono ?_; rintro e w' ⟨rfl, hw⟩; exact ⟨rfl, by rw [hw]; exact hx⟩), hK _ ?_⟩; clear hK K) | (refine ⟨_, fun wx hx => (by with_reducible refine ((HG.out wx hx).2.2.2.2.1).mono ?_; rintro e w' ⟨rfl, hw⟩; exact ⟨rfl, by rw [hw]; exact hx⟩), hK _ ?_⟩; clear hK K) | (refine ⟨_, fun wx hx => (by with_reducible refine ((HG.out wx hx).2.2.2.2.2).mono ?_; rintro e w' ⟨rfl, hw⟩; exact ⟨rfl, by rw [hw]; exact hx⟩), hK _ ?_⟩; clear hK K)) | (refine ⟨_, fun _ _ => rfl, hK _ ?_⟩; clear hK K))); with_reducible refine wpQuiet_nil ?_
  intro w4 S4
  have H4 := Lib.hid S4
  clear S4 HQ e0 e1 e2 e3 e4 e5 e6
  obtain ⟨e0, e1, e2, e3, e4, e5, e6⟩ := HL.out _ H4.out
  have SV := (punch_view (v := v) (x := x) (addr := ca) HOK.out (by rw [HCA.out]; exact find_self HOK.out HU.out) HU.out HD.out HB.out.1)
  obtain ⟨db2, hv⟩ := SV
  obtain ⟨hv1, hv2⟩ := hv W _ w4 H4.out.s7
  have HV1 := Lib.hid hv1
  have HV2 := Lib.hid hv2
  clear hv hv1 hv2
  go_wp2_with fail
  refine HV1.out.mono ?_
  rintro e w5 ⟨rfl, hw⟩
  have hw := hw.symm
  subst hw
  go_wp2_with fail
  refine HV2.out.mono ?_
  rintro e w6 ⟨Ad, cd, rfl, S6⟩
  obtain ⟨qs, hqs, S7⟩ := U.deckS_open S6
  have hqn : qs.length = n := by
    have := congrArg List.length hqs
    rw [HN.out.2] at this
    simpa using this
  rw [HN.out.2, hqn] at S7
  rw [HN.out.2]
  have H7 := Lib.hid S7
  have HD1 := Lib.hid (show U.DeckRd W (rowS 50 1 (.slice Ad n cd) n (qs.map Prod.fst) :: star (qs.map U.cardS) :: setO x v bs s :: cel qdb #[.slice Aq n cq, .int .i64 (se : Int)] 100 :: rowS 50 1 (.slice Aq n cq) n (ps.map Prod.fst) :: star (ps.map U.cardS) :: cel qb (qoneCells qdb u) 45 :: star ((List.zipWith qoneS bq s.us).eraseIdx i) :: cel y #[v2, .bool s.off] 38 :: rowS 31 1 v2 s.us.length (ptrs bq) :: F) Ad (qs.map Prod.snd) from U.DeckRd.own fun w S => ⟨_, S⟩)
  have HD2 := Lib.hid (show U.DeckRd W (rowS 50 1 (.slice Ad n cd) n (qs.map Prod.fst) :: star (qs.map U.cardS) :: setO x v bs s :: cel qdb #[.slice Aq n cq, .int .i64 (se : Int)] 100 :: rowS 50 1 (.slice Aq n cq) n (ps.map Prod.fst) :: star (ps.map U.cardS) :: cel qb (qoneCells qdb u) 45 :: star ((List.zipWith qoneS bq s.us).eraseIdx i) :: cel y #[v2, .bool s.off] 38 :: rowS 31 1 v2 s.us.length (ptrs bq) :: F) Aq (ps.map Prod.snd) from U.DeckRd.own fun w S => ⟨_, S.s5.s5⟩)
  have HF := Lib.hid (fun (wx : World) (hx : SL W (rowS 50 1 (.slice Ad n cd) n (qs.map Prod.fst) :: star (qs.map U.cardS) :: setO x v bs s :: cel qdb #[.slice Aq n cq, .int .i64 (se : Int)] 100 :: rowS 50 1 (.slice Aq n cq) n (ps.map Prod.fst) :: star (ps.map U.cardS) :: cel qb (qoneCells qdb u) 45 :: star ((List.zipWith qoneS bq s.us).eraseIdx i) :: cel y #[v2, .bool s.off] 38 :: rowS 31 1 v2 s.us.length (ptrs bq) :: F) wx) => (by
    have L := hx.drop.drop.drop.drop.drop.drop.look.1
    have M := hx.drop.drop.drop.look.1
    exact ⟨(L 3).trans (by show some (qPtr 2 qdb u.dev) = _; rw [HD.out]; rfl), M 0⟩ : wx.cell? ⟨qb, 3, none⟩ = some (.pointer (some ⟨qdb, 0, none⟩)) ∧ wx.cell? ⟨qdb, 0, none⟩ = some (.slice Aq n cq)))
  rw [hqs] at HD1
  rw [HN.out.1] at HD2
  have HQS := Lib.hid hqs
  clear S6 S7 H4 hqs hqn e0 e1 e2 e3 e4 e5 e6 HV1 HV2 HG HL
  go_wp2_with fail
  go_loopw [7] (fun j wr => ∃ m : Nat, m ≤ n ∧ j = .int .i64 m ∧ SL W (rowS 50 1 (.slice Ad n cd) n (qs.map Prod.fst) :: star (qs.map U.cardS) :: setO x v bs s :: cel qdb #[.slice Aq n cq, .int .i64 (se : Int)] 100 :: rowS 50 1 (.slice Aq n cq) n (ps.map Prod.fst) :: star (ps.map U.cardS) :: cel qb (qoneCells qdb u) 45 :: star ((List.zipWith qoneS bq s.us).eraseIdx i) :: cel y #[v2, .bool s.off] 38 :: rowS 31 1 v2 s.us.length (ptrs bq) :: F) wr) (fun j _ => n - (intOf j).toNat)
  case atStart => exact ⟨0, Nat.zero_le _, rfl, H7.out⟩
  case round =>
    obtain ⟨m, hm, rfl, S1⟩ := hrel
    have H8 := Lib.hid S1
    clear S1 H7
    by_cases hlt : m < n
    · have hz : cs[m]? = some (cs[m]'(by rw [HN.out.2]; exact hlt)) := List.getElem?_eq_getElem _
      have hzl := HC80.out (cs[m]'(by rw [HN.out.2]; exact hlt)) (List.getElem_mem _)
      generalize (cs[m]'(by rw [HN.out.2]; exact hlt)) = z at hz hzl
      have HZL := Lib.hid hzl
      clear hzl
      obtain ⟨g1, o1, A1, c1, rfl, _, _, q1⟩ := HD1.out.fix _ H8.out m z hz
      obtain ⟨g2, o2, A2, c2, rfl, _, _, q2⟩ := HD2.out.fix _ H8.out m z hz
      have HX := Lib.hid (And.intro q1 q2)
      have HS := Lib.hid (fun (wx : World) (hx : SL W (rowS 50 1 (.slice (some ⟨g1, o1, none⟩) n cd) n (qs.map Prod.fst) :: star (qs.map U.cardS) :: setO x v bs s :: cel qdb #[.slice (some ⟨g2, o2, none⟩) n cq, .int .i64 (se : Int)] 100 :: rowS 50 1 (.slice (some ⟨g2, o2, none⟩) n cq) n (ps.map Prod.fst) :: star (ps.map U.cardS) :: cel qb (qoneCells qdb u) 45 :: star ((List.zipWith qoneS bq s.us).eraseIdx i) :: cel y #[v2, .bool s.off] 38 :: rowS 31 1 v2 s.us.length (ptrs bq) :: F) wx) => same_below A1 A2 z c1 c2 wx (q1 wx hx).2 (q2 wx hx).2 (by have := HZL.out; unfold maxLen; omega))
      clear q1 q2 hz
      go_upto_region 12 with fail
      refine wp_region_quiet (C := SL W (rowS 50 1 (.slice (some ⟨g1, o1, none⟩) n cd) n (qs.map Prod.fst) :: star (qs.map U.cardS) :: setO x v bs s :: cel qdb #[.slice (some ⟨g2, o2, none⟩) n cq, .int .i64 (se : Int)] 100 :: rowS 50 1 (.slice (some ⟨g2, o2, none⟩) n cq) n (ps.map Prod.fst) :: star (ps.map U.cardS) :: cel qb (qoneCells qdb u) 45 :: star ((List.zipWith qoneS bq s.us).eraseIdx i) :: cel y #[v2, .bool s.off] 38 :: rowS 31 1 v2 s.us.length (ptrs bq) :: F)) (by kernel_rfl) (by kernel_rfl) H8.out.drew ?_
      (repeat (with_reducible refine wpQuiet_step ?_; intro K hK; go_simp; first | (with_reducible refine hK _ ?_; clear hK K) | (rw [if_neg (by decide)]; with_reducible refine hK _ ?_; clear hK K) | (refine ⟨_, fun wx hx => (by obtain ⟨f0, f1⟩ := HF.out wx hx; have f2 := (HX.out.1 wx hx).1; have f3 := (HX.out.2 wx hx).1; go_simp; with_reducible rfl), hK _ ?_⟩; clear hK K) | (refine ⟨_, fun wx hx => (by with_reducible refine (HS.out wx hx).mono ?_; rintro e w' ⟨rfl, hw⟩; exact ⟨rfl, hx.grow hw⟩), hK _ ?_⟩; clear hK K) | (refine ⟨_, fun _ _ => rfl, hK _ ?_⟩; clear hK K))); with_reducible refine wpQuiet_nil ?_
      intro w9 S9
      have H9 := Lib.hid S9
      clear S9 H8
      go_wp2
      go_roundw
      case rel => exact ⟨m + 1, by omega, by go_num, H9.out⟩
      case measure => simp [intOf]; omega
    · obtain rfl : m = n := by omega
      obtain ⟨f0, f1⟩ := HF.out _ H8.out
      go_wp2
      go_ret
      have SB := (SL.drop (SL.drop H8.out)).b7
      have hl : m = ps.length := by rw [← HN.out.2, ← HN.out.1]; simp
      have SC := U.deckS_close' hl SB.b2
      rw [HN.out.1] at SC
      have SZ := U.qunS_close SC.s1
      exact ⟨rfl, qdev_same (u := u) HB.out.2.2.1 HB.out.2.2.2 HU.out (by rw [HD.out]; exact SZ)⟩
end
end Go.Proofs.YtfhpaehfihnjaaaGreat
