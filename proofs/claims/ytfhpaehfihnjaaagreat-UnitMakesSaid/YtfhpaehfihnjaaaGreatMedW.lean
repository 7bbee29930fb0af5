/- media: a printer. -/
import Derived.Test.YtfhpaehfihnjaaaGreatMedB
namespace Go.Proofs.YtfhpaehfihnjaaaGreat
open Go.RowKit
section
variable {W w : World} {F : List SA} {x y : Nat} {v v2 : Value} {bs bq : List (Nat × Nat)} {s : ST} {i k : Nat}
set_option maxRecDepth 100000 in
set_option maxHeartbeats 32000000 in
theorem media_printer {u : UN} {qb qdb : Nat} {p : U.PS} (ok : s.ok k) (hk : k ≤ 10000000) (hu : s.us[i]? = some u) (hd : u.dev = .printer p) (hq : bq[i]? = some (qb, qdb)) (S : SL W (qsetO y v2 bq s :: setO x v bs s :: F) w) :
    Calls Tryz.prog 13 #[.pointer (some ⟨x, 0, none⟩), .pointer (some ⟨qb, 0, none⟩)] w fun e w' => e = .returned (.bool true) ∧ SL W (qsetO y v2 bq s :: setO x v bs s :: F) w' := by
  have hb := (set_open S.s1).1
  obtain ⟨b, db, hp⟩ := bs_get hb hu
  obtain ⟨hbq, SQ⟩ := qdev_open hq hu S
  have hkind := (ok.us u (List.mem_of_getElem? hu)).kind
  have hdok := (ok.us u (List.mem_of_getElem? hu)).dev
  rw [hd] at hkind hdok SQ
  rw [show (Dev.printer p).kind = 3 from rfl] at hkind
  obtain ⟨Aq, cq, SR⟩ := U.qprintS_open SQ
  have HQ := Lib.hid SR
  obtain ⟨_, hqm⟩ := own_cap SR.s1.own
  clear SR
  have HG := Lib.hid (fun (wx : World) (hx : SL W (cel qdb #[.slice Aq p.lines.length cq, .int .i64 (p.down : Int), .int .i64 (p.sense : Int)] 105 :: rowS 108 3 (.slice Aq p.lines.length cq) p.lines.length (p.lines.flatMap U.lineCells) :: cel qb (qoneCells qdb u) 45 :: star ((List.zipWith qoneS bq s.us).eraseIdx i) :: cel y #[v2, .bool s.off] 38 :: rowS 31 1 v2 s.us.length (ptrs bq) :: setO x v bs s :: F) wx) => (by
    obtain ⟨g0, g1, g2, g3, g4, g5⟩ := getters ok hu hp hx.s6
    rw [hd] at g1 g2 g3 g4 g5
    rw [show (Dev.printer p).kind = 3 from rfl] at g1 g2 g3 g4 g5
    rw [hkind] at g0
    rw [if_neg (by decide)] at g1
    rw [if_neg (by decide)] at g2
    rw [if_pos rfl] at g3
    rw [if_neg (by decide)] at g4
    rw [if_neg (by decide)] at g5
    exact ⟨g0, g1, g2, g3, g4, g5⟩ : Calls Tryz.prog 11 #[.pointer (some ⟨x, 0, none⟩), .int .i64 u.conf.addr] wx (fun e w' => e = .returned (.int .i64 3) ∧ w' = wx) ∧ Calls Tryz.prog 29 #[.pointer (some ⟨x, 0, none⟩), .int .i64 u.conf.addr] wx (fun e w' => e = .returned (.pointer none) ∧ w' = wx) ∧ Calls Tryz.prog 30 #[.pointer (some ⟨x, 0, none⟩), .int .i64 u.conf.addr] wx (fun e w' => e = .returned (.pointer none) ∧ w' = wx) ∧ Calls Tryz.prog 31 #[.pointer (some ⟨x, 0, none⟩), .int .i64 u.conf.addr] wx (fun e w' => e = .returned (.pointer (some ⟨db, 0, none⟩)) ∧ w' = wx) ∧ Calls Tryz.prog 19 #[.pointer (some ⟨x, 0, none⟩), .int .i64 u.conf.addr] wx (fun e w' => e = .returned (.pointer none) ∧ w' = wx) ∧ Calls Tryz.prog 32 #[.pointer (some ⟨x, 0, none⟩), .int .i64 u.conf.addr] wx (fun e w' => e = .returned (.pointer none) ∧ w' = wx)))
  have HL := Lib.hid (fun (wx : World) (hx : SL W (cel qdb #[.slice Aq p.lines.length cq, .int .i64 (p.down : Int), .int .i64 (p.sense : Int)] 105 :: rowS 108 3 (.slice Aq p.lines.length cq) p.lines.length (p.lines.flatMap U.lineCells) :: cel qb (qoneCells qdb u) 45 :: star ((List.zipWith qoneS bq s.us).eraseIdx i) :: cel y #[v2, .bool s.off] 38 :: rowS 31 1 v2 s.us.length (ptrs bq) :: setO x v bs s :: F) wx) => (by
    have L := hx.drop.drop.look.1
    exact ⟨L 0, (L 1).trans (by show some (Value.int .i64 u.conf.kind) = _; rw [hkind]), (L 2).trans (by show some (qPtr 1 qdb u.dev) = _; rw [hd]; rfl), (L 3).trans (by show some (qPtr 2 qdb u.dev) = _; rw [hd]; rfl), (L 4).trans (by show some (qPtr 3 qdb u.dev) = _; rw [hd]; rfl), (L 5).trans (by show some (qPtr 4 qdb u.dev) = _; rw [hd]; rfl), (L 6).trans (by show some (qPtr 5 qdb u.dev) = _; rw [hd]; rfl)⟩ : wx.cell? ⟨qb, 0, none⟩ = some (.int .i64 u.conf.addr) ∧ wx.cell? ⟨qb, 1, none⟩ = some (.int .i64 3) ∧ wx.cell? ⟨qb, 2, none⟩ = some (.pointer none) ∧ wx.cell? ⟨qb, 3, none⟩ = some (.pointer none) ∧ wx.cell? ⟨qb, 4, none⟩ = some (.pointer (some ⟨qdb, 0, none⟩)) ∧ wx.cell? ⟨qb, 5, none⟩ = some (.pointer none) ∧ wx.cell? ⟨qb, 6, none⟩ = some (.pointer none)))
  have HOK := Lib.hid ok
  have HDK := Lib.hid hdok
  have HB := Lib.hid (And.intro hb (And.intro hp (And.intro hbq hq)))
  have HU := Lib.hid hu
  have HD := Lib.hid hd
  clear SQ S hb hp hbq hq hkind hdok ok hu hd
  obtain ⟨e0, e1, e2, e3, e4, e5, e6⟩ := HL.out _ HQ.out
  obtain ⟨ca, hca⟩ : ∃ c, c = u.conf.addr := ⟨_, rfl⟩
  have HCA := Lib.hid hca
  rw [← hca] at HG HL e0
  clear hca
  go_enter Tryz.func13, Tryz.ntmps13
  go_upto_region 2 with fail
  refine wp_region_quiet (C := SL W (cel qdb #[.slice Aq p.lines.length cq, .int .i64 (p.down : Int), .int .i64 (p.sense : Int)] 105 :: rowS 108 3 (.slice Aq p.lines.length cq) p.lines.length (p.lines.flatMap U.lineCells) :: cel qb (qoneCells qdb u) 45 :: star ((List.zipWith qoneS bq s.us).eraseIdx i) :: cel y #[v2, .bool s.off] 38 :: rowS 31 1 v2 s.us.length (ptrs bq) :: setO x v bs s :: F)) (by kernel_rfl) (by kernel_rfl) HQ.out.drew ?_
  simp only [List.append_eq, List.cons_append, List.nil_append]
  (repeat (with_reducible refine wpQuiet_step ?_; intro K hK; go_simp; first | (with_reducible refine hK _ ?_; clear hK K) | (rw [if_neg (by decide)]; with_reducible refine hK _ ?_; clear hK K) | (refine ⟨_, fun wx hx => (by obtain ⟨f0, f1, f2, f3, f4, f5, f6⟩ := HL.out wx hx; go_simp; with_reducible rfl), hK _ ?_⟩; clear hK K) | (first | (refine ⟨_, fun wx hx => (by with_reducible refine ((HG.out wx hx).1).mono ?_; rintro e w' ⟨rfl, hw⟩; exact ⟨rfl, by rw [hw]; exact hx⟩), hK _ ?_⟩; clear hK K) | (refine ⟨_, fun wx hx => (by with_reducible refine ((HG.out wx hx).2.1).mono ?_; rintro e w' ⟨rfl, hw⟩; exact ⟨rfl, by rw [hw]; exact hx⟩), hK _ ?_⟩; clear hK K) | (refine ⟨_, fun wx hx => (by with_reducible refine ((HG.out wx hx).2.2.1).mono ?_; rintro e w' ⟨rfl, hw⟩; exact ⟨rfl, by rw [hw]; exact hx⟩), hK _ ?_⟩; clear hK K) | (refine ⟨_, fun wx hx => (by with_reducible refine ((HG.out wx hx).2.2.2.1).mono ?_; rintro e w' ⟨rfl, hw⟩; exact ⟨rfl, by rw [hw]; exact hx⟩), hK _ ?_⟩; clear hK K) | (refine ⟨_, fun wx hx => (by with_reducible refine ((HG.out wx hx).2.2.2.2.1).mono ?_; rintro e w' ⟨rfl, hw⟩; exact ⟨rfl, by rw [hw]; exact hx⟩), hK _ ?_⟩; clear hK K) | (refine ⟨_, fun wx hx => (by with_reducible refine ((HG.out wx hx).2.2.2.2.2).mono ?_; rintro e w' ⟨rfl, hw⟩; exact ⟨rfl, by rw [hw]; exact hx⟩), hK _ ?_⟩; clear hK K)) | (refine ⟨_, fun _ _ => rfl, hK _ ?_⟩; clear hK K))); with_reducible refine wpQuiet_nil ?_
  intro w4 S4
  have H4 := Lib.hid S4
  clear S4 HQ e0 e1 e2 e3 e4 e5 e6
  obtain ⟨e0, e1, e2, e3, e4, e5, e6⟩ := HL.out _ H4.out
  have hg3 := (HG.out _ H4.out).2.2.2.1
  have HV1 := Lib.hid hg3
  have HV2 := Lib.hid (paper_at (by omega) HDK.out HU.out HD.out HB.out.2.1 HB.out.1 H4.out.s6)
  clear hg3
  go_wp2_with fail
  refine HV1.out.mono ?_
  rintro e w5 ⟨rfl, hw⟩
  have hw := hw.symm
  subst hw
  go_wp2_with fail
  refine HV2.out.mono ?_
  rintro e w6 ⟨Ad, cd, rfl, S6⟩
  unfold U.linesS at S6
  have H7 := Lib.hid S6
  have HF := Lib.hid (fun (wx : World) (hx : SL W (rowS 107 3 (.slice Ad p.lines.length cd) p.lines.length (p.lines.flatMap U.lineCells) :: setO x v bs s :: cel qdb #[.slice Aq p.lines.length cq, .int .i64 (p.down : Int), .int .i64 (p.sense : Int)] 105 :: rowS 108 3 (.slice Aq p.lines.length cq) p.lines.length (p.lines.flatMap U.lineCells) :: cel qb (qoneCells qdb u) 45 :: star ((List.zipWith qoneS bq s.us).eraseIdx i) :: cel y #[v2, .bool s.off] 38 :: rowS 31 1 v2 s.us.length (ptrs bq) :: F) wx) => (by
    have L := hx.drop.drop.drop.drop.look.1
    have M := hx.drop.drop.look.1
    exact ⟨(L 4).trans (by show some (qPtr 3 qdb u.dev) = _; rw [HD.out]; rfl), M 0⟩ : wx.cell? ⟨qb, 4, none⟩ = some (.pointer (some ⟨qdb, 0, none⟩)) ∧ wx.cell? ⟨qdb, 0, none⟩ = some (.slice Aq p.lines.length cq)))
  have hn4 : p.lines.length ≤ 8192 := HDK.out.1
  obtain ⟨n, hn⟩ : ∃ n, n = p.lines.length := ⟨_, rfl⟩
  have HN := Lib.hid hn
  rw [← hn] at H7 HF hn4
  rw [← hn]
  clear S6 H4 e0 e1 e2 e3 e4 e5 e6 HV1 HV2 hn
  go_wp2_with fail
  go_loopw [9] (fun j wr => ∃ m : Nat, m ≤ n ∧ j = .int .i64 m ∧ SL W (rowS 107 3 (.slice Ad n cd) n (p.lines.flatMap U.lineCells) :: setO x v bs s :: cel qdb #[.slice Aq n cq, .int .i64 (p.down : Int), .int .i64 (p.sense : Int)] 105 :: rowS 108 3 (.slice Aq n cq) n (p.lines.flatMap U.lineCells) :: cel qb (qoneCells qdb u) 45 :: star ((List.zipWith qoneS bq s.us).eraseIdx i) :: cel y #[v2, .bool s.off] 38 :: rowS 31 1 v2 s.us.length (ptrs bq) :: F) wr) (fun j _ => n - (intOf j).toNat)
  case atStart => exact ⟨0, Nat.zero_le _, rfl, H7.out⟩
  case round =>
    obtain ⟨m, hm, rfl, S1⟩ := hrel
    have H8 := Lib.hid S1
    clear S1 H7
    by_cases hlt : m < n
    · as_aux_lemma =>
        have hz : p.lines[m]? = some (p.lines[m]'(by rw [← HN.out]; exact hlt)) := List.getElem?_eq_getElem _
        generalize (p.lines[m]'(by rw [← HN.out]; exact hlt)) = z at hz
        obtain ⟨g1, rfl, _, _⟩ := H8.out.cellAt (j := m * 3 + 0) (u := .int .i64 (z.1 : Int)) ((lines_at _ m 0 z hz (by omega)).trans rfl)
        obtain ⟨g2, rfl, _, _⟩ := H8.out.s3.cellAt (j := m * 3 + 0) (u := .int .i64 (z.1 : Int)) ((lines_at _ m 0 z hz (by omega)).trans rfl)
        have HX := Lib.hid (fun (wx : World) (hx : SL W (rowS 107 3 (.slice (some ⟨g1, 0, none⟩) n cd) n (p.lines.flatMap U.lineCells) :: setO x v bs s :: cel qdb #[.slice (some ⟨g2, 0, none⟩) n cq, .int .i64 (p.down : Int), .int .i64 (p.sense : Int)] 105 :: rowS 108 3 (.slice (some ⟨g2, 0, none⟩) n cq) n (p.lines.flatMap U.lineCells) :: cel qb (qoneCells qdb u) 45 :: star ((List.zipWith qoneS bq s.us).eraseIdx i) :: cel y #[v2, .bool s.off] 38 :: rowS 31 1 v2 s.us.length (ptrs bq) :: F) wx) => (by
          have c1 : ∀ i v, i < 3 → (U.lineCells z)[i]? = some v → wx.cell? ⟨g1, m * 3 + i, none⟩ = some v := fun i v hi hv => by
            obtain ⟨g, hg, _, h⟩ := hx.cellAt (j := m * 3 + i) (u := v) ((lines_at _ m i z hz hi).trans hv)
            injection hg with e; injection e with e _; subst e; exact h
          have c2 : ∀ i v, i < 3 → (U.lineCells z)[i]? = some v → wx.cell? ⟨g2, m * 3 + i, none⟩ = some v := fun i v hi hv => by
            obtain ⟨g, hg, _, h⟩ := hx.s3.cellAt (j := m * 3 + i) (u := v) ((lines_at _ m i z hz hi).trans hv)
            injection hg with e; injection e with e _; subst e; exact h
          exact ⟨c1 0 _ (by omega) rfl, c1 1 _ (by omega) rfl, c1 2 _ (by omega) rfl, c2 0 _ (by omega) rfl, c2 1 _ (by omega) rfl, c2 2 _ (by omega) rfl⟩ :
          wx.cell? ⟨g1, m * 3, none⟩ = some (.int .i64 (z.1 : Int)) ∧ wx.cell? ⟨g1, m * 3 + 1, none⟩ = some (.int .i64 (z.2.1 : Int)) ∧ wx.cell? ⟨g1, m * 3 + 2, none⟩ = some (.string ⟨z.2.2.toArray⟩) ∧
          wx.cell? ⟨g2, m * 3, none⟩ = some (.int .i64 (z.1 : Int)) ∧ wx.cell? ⟨g2, m * 3 + 1, none⟩ = some (.int .i64 (z.2.1 : Int)) ∧ wx.cell? ⟨g2, m * 3 + 2, none⟩ = some (.string ⟨z.2.2.toArray⟩)))
        clear hz
        go_upto_region 20 with fail
        obtain ⟨f0, f1⟩ := HF.out _ H8.out
        obtain ⟨h1, h2, h3, h4, h5, h6⟩ := HX.out _ H8.out
        have H9 := Lib.hid H8.out.drew
        clear H8 HX HF
        obtain ⟨z1, hz1⟩ : ∃ z1 : Int, z1 = (z.1 : Int) := ⟨_, rfl⟩
        obtain ⟨z2, hz2⟩ : ∃ z2 : Int, z2 = (z.2.1 : Int) := ⟨_, rfl⟩
        obtain ⟨z3, hz3⟩ : ∃ z3 : ByteArray, z3 = ⟨z.2.2.toArray⟩ := ⟨_, rfl⟩
        rw [← hz1] at h1 h4
        rw [← hz2] at h2 h5
        rw [← hz3] at h3 h6
        clear hz1 hz2 hz3
        have t1 : (z1 != z1) = false := by simp
        have t2 : (z2 != z2) = false := by simp
        have t0 : decide ((n : Int) ≤ (m : Int)) = false := decide_eq_false (by omega)
        have t9 : ¬ ((n : Int) ≤ (m : Int)) := by omega
        simp only [List.append_eq, List.cons_append, List.nil_append]
        go_big_region
        go_wp2
        go_roundw
        case rel => exact ⟨m + 1, by omega, by go_num, H9.out⟩
        case measure => simp [intOf]; omega
    · obtain rfl : m = n := by omega
      have ha := (getters HOK.out HU.out HB.out.2.1 H8.out.s1).2.2.2.1
      rw [HD.out, ← HCA.out, if_pos (by rfl)] at ha
      have HA1 := Lib.hid ha
      have HA2 := Lib.hid (printer_at HU.out HD.out HB.out.2.1 H8.out.s1)
      have hdn : p.down ≤ 2000000000 := by have := HDK.out.2.2; omega
      have HA3 := Lib.hid (fun (wx : World) (hx : SL W (rowS 107 3 (.slice Ad m cd) m (p.lines.flatMap U.lineCells) :: setO x v bs s :: cel qdb #[.slice Aq m cq, .int .i64 (p.down : Int), .int .i64 (p.sense : Int)] 105 :: rowS 108 3 (.slice Aq m cq) m (p.lines.flatMap U.lineCells) :: cel qb (qoneCells qdb u) 45 :: star ((List.zipWith qoneS bq s.us).eraseIdx i) :: cel y #[v2, .bool s.off] 38 :: rowS 31 1 v2 s.us.length (ptrs bq) :: F) wx) => U.rpat_any qdb W.heap.size p hdn wx (U.qprintS_at (by
        have h := hx.drop.drop
        rw [HN.out] at h
        exact U.qprintS_close h)))
      unfold ptrV at HA1
      generalize ((p.down / 60 + 1 : Nat) : Int) = d1 at *
      generalize ((p.down % 60 + 1 : Nat) : Int) = d2 at *
      clear ha hdn
      go_wp2_with fail
      refine HA1.out.mono ?_
      rintro e w5 ⟨rfl, hw⟩
      have hw := hw.symm
      subst hw
      go_wp2_with fail
      refine HA2.out.mono ?_
      rintro e w6 ⟨rfl, hs⟩
      have H9 := Lib.hid (H8.out.still hs)
      clear hs H8 HA1 HA2
      obtain ⟨f0, f1⟩ := HF.out _ H9.out
      go_wp2_with fail
      refine (HA3.out _ H9.out).mono ?_
      rintro e w7 ⟨rfl, hs⟩
      have H10 := Lib.hid (H9.out.still hs)
      clear hs H9 HA3 f0 f1
      obtain ⟨f0, f1⟩ := HF.out _ H10.out
      go_wp2
      go_ret
      have SB := SL.b6 (SL.drop H10.out)
      rw [HN.out] at SB
      have SC := U.qprintS_close SB
      exact ⟨rfl, qdev_same (u := u) HB.out.2.2.1 HB.out.2.2.2 HU.out (by rw [HD.out]; exact SC)⟩
end
end Go.Proofs.YtfhpaehfihnjaaaGreat
