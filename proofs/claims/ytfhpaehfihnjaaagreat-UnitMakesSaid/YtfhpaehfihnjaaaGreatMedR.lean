/- media: a reader. -/
import Derived.Test.YtfhpaehfihnjaaaGreatMedB
namespace Go.Proofs.YtfhpaehfihnjaaaGreat
open Go.RowKit
section
variable {W w : World} {F : List SA} {x y : Nat} {v v2 : Value} {bs bq : List (Nat × Nat)} {s : ST} {i k : Nat}
set_option maxRecDepth 100000 in
set_option maxHeartbeats 32000000 in
theorem media_reader {u : UN} {qb qdb : Nat} {se tk st : Nat} {cs : List (List UInt8)} (ok : s.ok k) (_ : k ≤ 10000000) (hu : s.us[i]? = some u) (hd : u.dev = .reader se tk st cs) (hq : bq[i]? = some (qb, qdb)) (S : SL W (qsetO y v2 bq s :: setO x v bs s :: F) w) :
    Calls Tryz.prog 13 #[.pointer (some ⟨x, 0, none⟩), .pointer (some ⟨qb, 0, none⟩)] w fun e w' => e = .returned (.bool true) ∧ SL W (qsetO y v2 bq s :: setO x v bs s :: F) w' := by
  have hb := (set_open S.s1).1
  obtain ⟨b, db, hp⟩ := bs_get hb hu
  obtain ⟨hbq, SQ⟩ := qdev_open hq hu S
  have hkind := (ok.us u (List.mem_of_getElem? hu)).kind
  have hdok := (ok.us u (List.mem_of_getElem? hu)).dev
  rw [hd] at hkind hdok SQ
  rw [show (Dev.reader se tk st cs).kind = 1 from rfl] at hkind
  obtain ⟨dv, _, SR⟩ := U.readqS_open SQ
  obtain ⟨Ad, cd, rfl, _, hcd⟩ := U.deck_len SR.s1
  have HQ := Lib.hid SR
  clear SR
  have HG := Lib.hid (fun (wx : World) (hx : SL W (cel qdb #[.slice Ad cs.length cd, .int .i64 (tk : Int), .int .i64 (st : Int), .int .i64 (se : Int)] 97 :: U.deckS (.slice Ad cs.length cd) cs :: cel qb (qoneCells qdb u) 45 :: star ((List.zipWith qoneS bq s.us).eraseIdx i) :: cel y #[v2, .bool s.off] 38 :: rowS 31 1 v2 s.us.length (ptrs bq) :: setO x v bs s :: F) wx) => (by
    obtain ⟨g0, g1, g2, g3, g4, g5⟩ := getters ok hu hp hx.s6
    rw [hd] at g1 g2 g3 g4 g5
    rw [show (Dev.reader se tk st cs).kind = 1 from rfl] at g1 g2 g3 g4 g5
    rw [hkind] at g0
    rw [if_pos rfl] at g1
    rw [if_neg (by decide)] at g2
    rw [if_neg (by decide)] at g3
    rw [if_neg (by decide)] at g4
    rw [if_neg (by decide)] at g5
    exact ⟨g0, g1, g2, g3, g4, g5⟩ : Calls Tryz.prog 11 #[.pointer (some ⟨x, 0, none⟩), .int .i64 u.conf.addr] wx (fun e w' => e = .returned (.int .i64 1) ∧ w' = wx) ∧ Calls Tryz.prog 29 #[.pointer (some ⟨x, 0, none⟩), .int .i64 u.conf.addr] wx (fun e w' => e = .returned (.pointer (some ⟨db, 0, none⟩)) ∧ w' = wx) ∧ Calls Tryz.prog 30 #[.pointer (some ⟨x, 0, none⟩), .int .i64 u.conf.addr] wx (fun e w' => e = .returned (.pointer none) ∧ w' = wx) ∧ Calls Tryz.prog 31 #[.pointer (some ⟨x, 0, none⟩), .int .i64 u.conf.addr] wx (fun e w' => e = .returned (.pointer none) ∧ w' = wx) ∧ Calls Tryz.prog 19 #[.pointer (some ⟨x, 0, none⟩), .int .i64 u.conf.addr] wx (fun e w' => e = .returned (.pointer none) ∧ w' = wx) ∧ Calls Tryz.prog 32 #[.pointer (some ⟨x, 0, none⟩), .int .i64 u.conf.addr] wx (fun e w' => e = .returned (.pointer none) ∧ w' = wx)))
  have HL := Lib.hid (fun (wx : World) (hx : SL W (cel qdb #[.slice Ad cs.length cd, .int .i64 (tk : Int), .int .i64 (st : Int), .int .i64 (se : Int)] 97 :: U.deckS (.slice Ad cs.length cd) cs :: cel qb (qoneCells qdb u) 45 :: star ((List.zipWith qoneS bq s.us).eraseIdx i) :: cel y #[v2, .bool s.off] 38 :: rowS 31 1 v2 s.us.length (ptrs bq) :: setO x v bs s :: F) wx) => (by
    have L := hx.drop.drop.look.1
    exact ⟨L 0, (L 1).trans (by show some (Value.int .i64 u.conf.kind) = _; rw [hkind]), (L 2).trans (by show some (qPtr 1 qdb u.dev) = _; rw [hd]; rfl), (L 3).trans (by show some (qPtr 2 qdb u.dev) = _; rw [hd]; rfl), (L 4).trans (by show some (qPtr 3 qdb u.dev) = _; rw [hd]; rfl), (L 5).trans (by show some (qPtr 4 qdb u.dev) = _; rw [hd]; rfl), (L 6).trans (by show some (qPtr 5 qdb u.dev) = _; rw [hd]; rfl)⟩ : wx.cell? ⟨qb, 0, none⟩ = some (.int .i64 u.conf.addr) ∧ wx.cell? ⟨qb, 1, none⟩ = some (.int .i64 1) ∧ wx.cell? ⟨qb, 2, none⟩ = some (.pointer (some ⟨qdb, 0, none⟩)) ∧ wx.cell? ⟨qb, 3, none⟩ = some (.pointer none) ∧ wx.cell? ⟨qb, 4, none⟩ = some (.pointer none) ∧ wx.cell? ⟨qb, 5, none⟩ = some (.pointer none) ∧ wx.cell? ⟨qb, 6, none⟩ = some (.pointer none)))
  have HOK := Lib.hid ok
  have HDK := Lib.hid hdok
  have HB := Lib.hid (And.intro hb (And.intro hp (And.intro hbq hq)))
  have HU := Lib.hid hu
  have HD := Lib.hid hd
  clear SQ S hb hp hbq hq hkind hdok ok hu hd
  obtain ⟨e0, e1, e2, e3, e4, e5, e6⟩ := HL.out _ HQ.out
  obtain ⟨ca, hca⟩ : ∃ c, c = u.conf.addr := ⟨_, rfl⟩
  have HCA := Lib.hid hca
  rw [← hca] at HG HL e0
  clear hca
  go_enter Tryz.func13, Tryz.ntmps13
  go_upto_region 2 with fail
  refine wp_region_quiet (C := SL W (cel qdb #[.slice Ad cs.length cd, .int .i64 (tk : Int), .int .i64 (st : Int), .int .i64 (se : Int)] 97 :: U.deckS (.slice Ad cs.length cd) cs :: cel qb (qoneCells qdb u) 45 :: star ((List.zipWith qoneS bq s.us).eraseIdx i) :: cel y #[v2, .bool s.off] 38 :: rowS 31 1 v2 s.us.length (ptrs bq) :: setO x v bs s :: F)) (by kernel_rfl) (by kernel_rfl) HQ.out.drew ?_
  simp only [List.append_eq, List.cons_append, List.nil_append]
  (repeat (with_reducible refine wpQuiet_step ?_; intro K hK; go_simp; first | (with_reducible refine hK _ ?_; clear hK K) | (rw [if_neg (by decide)]; with_reducible refine hK _ ?_; clear hK K) | (refine ⟨_, fun wx hx => (by obtain ⟨f0, f1, f2, f3, f4, f5, f6⟩ := HL.out wx hx; go_simp; with_reducible rfl), hK _ ?_⟩; clear hK K) | (first | (refine ⟨_, fun wx hx => (by with_reducible refine ((HG.out wx hx).1).mono ?_; rintro e w' ⟨rfl, hw⟩; exact ⟨rfl, by rw [hw]; exact hx⟩), hK _ ?_⟩; clear hK K) | (refine ⟨_, fun wx hx => (by with_reducible refine ((HG.out wx hx).2.1).mono ?_; rintro e w' ⟨rfl, hw⟩; exact ⟨rfl, by rw [hw]; exact hx⟩), hK _ ?_⟩; clear hK K) | (refine ⟨_, fun wx hx => (by with_reducible refine ((HG.out wx hx).2.2.1).mono ?_; rintro e w' ⟨rfl, hw⟩; exact ⟨rfl, by rw [hw]; exact hx⟩), hK _ ?_⟩; clear hK K) | (refine ⟨_, fun wx hx => (by with_reducible refine ((HG.out wx hx).2.2.2.1).mono ?_; rintro e w' ⟨rfl, hw⟩; exact ⟨rfl, by rw [hw]; exact hx⟩), hK _ ?_⟩; clear hK K) | (refine ⟨_, fun wx hx => (by with_reducible refine ((HG.out wx hx).2.2.2.2.1).mono ?_; rintro e w' ⟨rfl, hw⟩; exact ⟨rfl, by rw [hw]; exact hx⟩), hK _ ?_⟩; clear hK K) | (refine ⟨_, fun wx hx => (by with_reducible refine ((HG.out wx hx).2.2.2.2.2).mono ?_; rintro e w' ⟨rfl, hw⟩; exact ⟨rfl, by rw [hw]; exact hx⟩), hK _ ?_⟩; clear hK K)) | (refine ⟨_, fun _ _ => rfl, hK _ ?_⟩; clear hK K))); with_reducible refine wpQuiet_nil ?_
  intro w4 S4
  have H4 := Lib.hid S4
  clear S4 HQ e0 e1 e2 e3 e4 e5 e6
  obtain ⟨e0, e1, e2, e3, e4, e5, e6⟩ := HL.out _ H4.out
  have HR := Lib.hid (fun (wx : World) (hx : SL W (cel qdb #[.slice Ad cs.length cd, .int .i64 (tk : Int), .int .i64 (st : Int), .int .i64 (se : Int)] 97 :: U.deckS (.slice Ad cs.length cd) cs :: cel qb (qoneCells qdb u) 45 :: star ((List.zipWith qoneS bq s.us).eraseIdx i) :: cel y #[v2, .bool s.off] 38 :: rowS 31 1 v2 s.us.length (ptrs bq) :: setO x v bs s :: F) wx) => stacked_view HU.out HD.out HB.out.2.1 hx.s6)
  have HF := Lib.hid (fun (wx : World) (hx : SL W (cel qdb #[.slice Ad cs.length cd, .int .i64 (tk : Int), .int .i64 (st : Int), .int .i64 (se : Int)] 97 :: U.deckS (.slice Ad cs.length cd) cs :: cel qb (qoneCells qdb u) 45 :: star ((List.zipWith qoneS bq s.us).eraseIdx i) :: cel y #[v2, .bool s.off] 38 :: rowS 31 1 v2 s.us.length (ptrs bq) :: setO x v bs s :: F) wx) => (⟨hx.look.1 0, hx.look.1 1, hx.look.1 2⟩ : wx.cell? ⟨qdb, 0, none⟩ = some (.slice Ad cs.length cd) ∧ wx.cell? ⟨qdb, 1, none⟩ = some (.int .i64 (tk : Int)) ∧ wx.cell? ⟨qdb, 2, none⟩ = some (.int .i64 (st : Int))))
  go_upto_region 6 with fail
  refine wp_region_quiet (C := SL W (cel qdb #[.slice Ad cs.length cd, .int .i64 (tk : Int), .int .i64 (st : Int), .int .i64 (se : Int)] 97 :: U.deckS (.slice Ad cs.length cd) cs :: cel qb (qoneCells qdb u) 45 :: star ((List.zipWith qoneS bq s.us).eraseIdx i) :: cel y #[v2, .bool s.off] 38 :: rowS 31 1 v2 s.us.length (ptrs bq) :: setO x v bs s :: F)) (by kernel_rfl) (by kernel_rfl) H4.out.drew ?_
  (repeat (with_reducible refine wpQuiet_step ?_; intro K hK; go_simp; first | (with_reducible refine hK _ ?_; clear hK K) | (rw [if_neg (by decide)]; with_reducible refine hK _ ?_; clear hK K) | (refine ⟨_, fun wx hx => (by obtain ⟨f0, f1, f2, f3, f4, f5, f6⟩ := HL.out wx hx; obtain ⟨h0, h1, h2⟩ := HF.out wx hx; go_simp; with_reducible rfl), hK _ ?_⟩; clear hK K) | (first | (refine ⟨_, fun wx hx => (by with_reducible refine ((HG.out wx hx).2.1).mono ?_; rintro e w' ⟨rfl, hw⟩; exact ⟨rfl, by rw [hw]; exact hx⟩), hK _ ?_⟩; clear hK K) | (refine ⟨_, fun wx hx => (by with_reducible refine ((HR.out wx hx).1).mono ?_; rintro e w' ⟨rfl, hw⟩; exact ⟨rfl, by rw [hw]; exact hx⟩), hK _ ?_⟩; clear hK K) | (refine ⟨_, fun wx hx => (by with_reducible refine ((HR.out wx hx).2.1).mono ?_; rintro e w' ⟨rfl, hw⟩; exact ⟨rfl, by rw [hw]; exact hx⟩), hK _ ?_⟩; clear hK K) | (refine ⟨_, fun wx hx => (by with_reducible refine ((HR.out wx hx).2.2).mono ?_; rintro e w' ⟨rfl, hw⟩; exact ⟨rfl, by rw [hw]; exact hx⟩), hK _ ?_⟩; clear hK K)) | (refine ⟨_, fun _ _ => rfl, hK _ ?_⟩; clear hK K))); with_reducible refine wpQuiet_nil ?_
  intro w5 S5
  have H5 := Lib.hid S5
  clear S5 H4
  go_wp2
  go_ret
  have SZ := U.readqS_close H5.out
  exact ⟨rfl, qdev_same (u := u) HB.out.2.2.1 HB.out.2.2.2 HU.out (by rw [HD.out]; exact SZ)⟩
end
end Go.Proofs.YtfhpaehfihnjaaaGreat
