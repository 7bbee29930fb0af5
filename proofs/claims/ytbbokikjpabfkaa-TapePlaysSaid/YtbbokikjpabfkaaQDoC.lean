/- Do of the reference: blocks and files. -/
import Derived.Test.YtbbokikjpabfkaaQDoB
namespace Go.Proofs.Ytbbokikjpabfkaa
open Go.RowKit

section
variable {W w w' : World} {F : List SA} {qb : Nat} {nm : ByteArray} {s : TP}
set_option maxRecDepth 100000 in
set_option maxHeartbeats 8000000 in
theorem qdo_move (op : Int) (hop : op = 2 ∨ op = 55 ∨ op = 12 ∨ op = 39) (A : Option Addr) (n c : Nat) (hl : s.loaded = true) (S : SL W (qS qb nm s :: F) w) (hp : s.pos ≤ s.bs.length) (hf : Fit s.bs) :
    Calls Try.prog 37 #[.pointer (some ⟨qb, 0, none⟩), .int .i64 op, .slice A n c] w fun e w' => RetS W (qS qb nm (snS (tpMove { s with last := none } op).1 (tpMove { s with last := none } op).2) :: F) (tpMove { s with last := none } op).2 e w' := by
  have HF := Lib.hid (And.intro hp hf)
  clear hp hf
  rcases hop with rfl | rfl | rfl | rfl
  · have HE := Lib.hid (And.intro qfine_any qexc_any); have HK := Lib.hid (known_at 2 true rfl); obtain ⟨h1, L0, K0, z0⟩ := qoff S; have H1 := Lib.hid h1; clear h1 S; obtain ⟨bs, pos, ld, se, la⟩ := s; dsimp only at *; subst hl
    go_enter Try.func37, Try.ntmps37
    go_wp2_with (first
      | ((with_reducible refine (qforward_any true H2.out.s1 HF.out.1 HF.out.2 2 (Or.inl ⟨rfl, rfl⟩)).mono ?_); rintro e w4 ⟨A4, c4, rfl, S4⟩; have HX := Lib.hid S4.s2; clear S4; obtain ⟨L4, K4, z4⟩ := HX.out.look)
      | ((with_reducible refine (HK.out _).mono ?_); rintro e w2 ⟨rfl, b2⟩; have H2 := Lib.hid (H1.out.grow b2); clear b2 H1 L0 K0 z0; obtain ⟨q2, hq2, S2⟩ := qS_open H2.out.s1; have HQ2 := Lib.hid hq2; have H2o := Lib.hid S2; clear hq2 S2; obtain ⟨L2, K2, z2⟩ := H2o.out.look; obtain ⟨L3, K3, z3⟩ := H2.out.look; dsimp only [qcells] at L2))
    (refine bodyPost_ret (by simp [results, Try.results37, go_sem, L4]; rfl) rfl ?_; exact ⟨A4, c4, rfl, HX.out.set3.drop⟩)
  · have HE := Lib.hid (And.intro qfine_any qexc_any); have HK := Lib.hid (known_at 55 true rfl); obtain ⟨h1, L0, K0, z0⟩ := qoff S; have H1 := Lib.hid h1; clear h1 S; obtain ⟨bs, pos, ld, se, la⟩ := s; dsimp only at *; subst hl
    go_enter Try.func37, Try.ntmps37
    go_wp2_with (first
      | ((with_reducible refine (qforward_any false H2.out.s1 HF.out.1 HF.out.2 55 (Or.inr ⟨rfl, rfl⟩)).mono ?_); rintro e w4 ⟨A4, c4, rfl, S4⟩; have HX := Lib.hid S4.s2; clear S4; obtain ⟨L4, K4, z4⟩ := HX.out.look)
      | ((with_reducible refine (HK.out _).mono ?_); rintro e w2 ⟨rfl, b2⟩; have H2 := Lib.hid (H1.out.grow b2); clear b2 H1 L0 K0 z0; obtain ⟨q2, hq2, S2⟩ := qS_open H2.out.s1; have HQ2 := Lib.hid hq2; have H2o := Lib.hid S2; clear hq2 S2; obtain ⟨L2, K2, z2⟩ := H2o.out.look; obtain ⟨L3, K3, z3⟩ := H2.out.look; dsimp only [qcells] at L2))
    (refine bodyPost_ret (by simp [results, Try.results37, go_sem, L4]; rfl) rfl ?_; exact ⟨A4, c4, rfl, HX.out.set3.drop⟩)
  · have HE := Lib.hid (And.intro qfine_any qexc_any); have HK := Lib.hid (known_at 12 true rfl); obtain ⟨h1, L0, K0, z0⟩ := qoff S; have H1 := Lib.hid h1; clear h1 S; obtain ⟨bs, pos, ld, se, la⟩ := s; dsimp only at *; subst hl
    go_enter Try.func37, Try.ntmps37
    go_wp2_with (first
      | ((with_reducible refine (qback_any true H2.out.s1 HF.out.1 HF.out.2 12 (Or.inl ⟨rfl, rfl⟩)).mono ?_); rintro e w4 ⟨A4, c4, rfl, S4⟩; have HX := Lib.hid S4.s2; clear S4; obtain ⟨L4, K4, z4⟩ := HX.out.look)
      | ((with_reducible refine (HK.out _).mono ?_); rintro e w2 ⟨rfl, b2⟩; have H2 := Lib.hid (H1.out.grow b2); clear b2 H1 L0 K0 z0; obtain ⟨q2, hq2, S2⟩ := qS_open H2.out.s1; have HQ2 := Lib.hid hq2; have H2o := Lib.hid S2; clear hq2 S2; obtain ⟨L2, K2, z2⟩ := H2o.out.look; obtain ⟨L3, K3, z3⟩ := H2.out.look; dsimp only [qcells] at L2))
    (refine bodyPost_ret (by simp [results, Try.results37, go_sem, L4]; rfl) rfl ?_; exact ⟨A4, c4, rfl, HX.out.set3.drop⟩)
  · have HE := Lib.hid (And.intro qfine_any qexc_any); have HK := Lib.hid (known_at 39 true rfl); obtain ⟨h1, L0, K0, z0⟩ := qoff S; have H1 := Lib.hid h1; clear h1 S; obtain ⟨bs, pos, ld, se, la⟩ := s; dsimp only at *; subst hl
    go_enter Try.func37, Try.ntmps37
    go_wp2_with (first
      | ((with_reducible refine (qback_any false H2.out.s1 HF.out.1 HF.out.2 39 (Or.inr ⟨rfl, rfl⟩)).mono ?_); rintro e w4 ⟨A4, c4, rfl, S4⟩; have HX := Lib.hid S4.s2; clear S4; obtain ⟨L4, K4, z4⟩ := HX.out.look)
      | ((with_reducible refine (HK.out _).mono ?_); rintro e w2 ⟨rfl, b2⟩; have H2 := Lib.hid (H1.out.grow b2); clear b2 H1 L0 K0 z0; obtain ⟨q2, hq2, S2⟩ := qS_open H2.out.s1; have HQ2 := Lib.hid hq2; have H2o := Lib.hid S2; clear hq2 S2; obtain ⟨L2, K2, z2⟩ := H2o.out.look; obtain ⟨L3, K3, z3⟩ := H2.out.look; dsimp only [qcells] at L2))
    (refine bodyPost_ret (by simp [results, Try.results37, go_sem, L4]; rfl) rfl ?_; exact ⟨A4, c4, rfl, HX.out.set3.drop⟩)
theorem ffile_none {bs : List Blk} {pos : Nat} {ld : Bool} {se : Nat} {la : Option (Nat × List Blk × Bool)} (h : ∀ j c, pos ≤ j → j < bs.length → bs[j]? = some c → c.mark = false) : tpMove ⟨bs, pos, ld, se, la⟩ 63 = (⟨bs, bs.length, ld, se, la⟩, [], 14, 2) := by
  unfold tpMove
  rw [if_neg (by decide), if_neg (by decide), if_pos rfl]
  have e : (bs.drop pos).findIdx? (·.mark) = none := markAt_none fun j c hj hc => by
    rw [List.getElem?_drop] at hc
    rw [List.length_drop] at hj
    exact h (pos + j) c (by omega) (by omega) hc
  simp only [e]
theorem ffile_some {bs : List Blk} {pos k : Nat} {b : Blk} {ld : Bool} {se : Nat} {la : Option (Nat × List Blk × Bool)} (h : ∀ j c, pos ≤ j → j < k → bs[j]? = some c → c.mark = false) (hpk : pos ≤ k) (hb : bs[k]? = some b) (hm : b.mark = true) :
    tpMove ⟨bs, pos, ld, se, la⟩ 63 = (⟨bs, k + 1, ld, se, la⟩, [], 13, 0) := by
  unfold tpMove
  rw [if_neg (by decide), if_neg (by decide), if_pos rfl]
  have e : (bs.drop pos).findIdx? (·.mark) = some (k - pos) := markAt_some (b := b) (fun j c hj hc => by
    rw [List.getElem?_drop] at hc
    exact h (pos + j) c (by omega) (by omega) hc) (by rw [List.getElem?_drop, ← hb]; congr 1; omega) hm
  simp only [e]
  rw [show pos + (k - pos) + 1 = k + 1 by omega]
set_option maxRecDepth 100000 in
set_option maxHeartbeats 8000000 in
theorem qdo_ffile (A : Option Addr) (n c : Nat) (hl : s.loaded = true) (S : SL W (qS qb nm s :: F) w) (hp : s.pos ≤ s.bs.length) (hf : Fit s.bs) :
    Calls Try.prog 37 #[.pointer (some ⟨qb, 0, none⟩), .int .i64 63, .slice A n c] w fun e w' => RetS W (qS qb nm (snS (tpMove { s with last := none } 63).1 (tpMove { s with last := none } 63).2) :: F) (tpMove { s with last := none } 63).2 e w' := by
  have HF := Lib.hid (And.intro hp hf)
  have hl1 : s.bs.length ≤ 1048576 := hf.1
  clear hp hf
  have HE := Lib.hid (And.intro qfine_any qexc_any); have HK := Lib.hid (known_at 63 true rfl); obtain ⟨h1, L0, K0, z0⟩ := qoff S; have H1 := Lib.hid h1; clear h1 S; obtain ⟨bs, pos, ld, se, la⟩ := s; dsimp only at *; subst hl
  generalize hr : tpMove ⟨bs, pos, true, se, none⟩ 63 = r
  have HR := Lib.hid hr
  clear hr
  go_enter Try.func37, Try.ntmps37
  go_wp2_with ((with_reducible refine (HK.out _).mono ?_); rintro e w2 ⟨rfl, b2⟩; have H2 := Lib.hid (H1.out.grow b2); clear b2 H1 L0 K0 z0; obtain ⟨q2, hq2, S2⟩ := qS_open H2.out.s1; have HQ2 := Lib.hid hq2; have H2o := Lib.hid S2; clear hq2 S2; obtain ⟨L2, K2, z2⟩ := H2o.out.look; obtain ⟨L3, K3, z3⟩ := H2.out.look; dsimp only [qcells] at L2)
  obtain ⟨qv, qvo, qwr, qoa, qobs⟩ := q2
  dsimp only [qcells] at H2o
  obtain ⟨A2, c2, rfl, hc1, hc2⟩ := blksS_slice H2o.out.s1
  generalize w.heap.size = xb at *
  clear L2 K2 z2 L3 K3 z3 H2
  go_loopg [] (bs.length - pos) (fun g wr => ∃ k : Nat, k + g = bs.length ∧ pos ≤ k ∧ (∀ j c, pos ≤ j → j < k → bs[j]? = some c → c.mark = false) ∧ SL W (cel qb #[.string nm, .slice A2 bs.length c2, .int .i64 (k : Int), .bool true, .int .i64 (se : Int), .bool false, .bool qwr, qvo, .int .i64 qoa] 67 :: blksS (.slice A2 bs.length c2) bs :: blksS qvo qobs :: cel xb #[.slice none 0 0, .int .i64 0, .int .i64 0] 31 :: F) wr)
  case atStart => exact ⟨pos, by have := HF.out.1; omega, Nat.le_refl _, fun j c h1 h2 => by omega, H2o.out⟩
  case round =>
    obtain ⟨k, hk, hpk, hall, S1⟩ := hrel
    have H3 := Lib.hid S1
    have HA := Lib.hid hall
    clear S1 H2o hall
    obtain ⟨L, K, z⟩ := H3.out.look
    by_cases hlt : k < bs.length
    · obtain ⟨b, hb⟩ : ∃ b, bs[k]? = some b := ⟨bs[k]'hlt, List.getElem?_eq_getElem hlt⟩
      obtain ⟨g0, ps, A4, c4, rfl, hps, hpp, S0⟩ := blk_open H3.out.s1 hb
      have HP := Lib.hid (And.intro hps hpp)
      have HB := Lib.hid hb
      have H4 := Lib.hid (SL.set (off := 2) (v := .int .i64 ((k : Int) + 1)) (cs' := #[.string nm, .slice (some ⟨g0, 0, none⟩) bs.length c2, .int .i64 ((k : Int) + 1), .bool true, .int .i64 (se : Int), .bool false, .bool qwr, qvo, .int .i64 qoa]) S0.s2 rfl).drew
      clear hps hpp hb S0
      go_wp2_with fail
      go_big_region
      go_wp2_with fail
      refine name_world (P := Code.wp _ _ _ _) ?_
      intro wd hwd
      rw [← hwd] at H4
      clear hwd L K z
      obtain ⟨L, K, z⟩ := H4.out.look
      obtain ⟨g4, g5, g6⟩ := blk_cells H4.out.s1 HP.out.2
      dsimp only at g4
      go_big_region
      go_wp2_with ((with_reducible refine (HE.out.2 _).mono ?_); rintro e w4 ⟨rfl, b4⟩; have H5 := Lib.hid (H4.out.drew.grow b4).s4; clear b4 L K z g4 g5 g6; obtain ⟨L4, K4, z4⟩ := H5.out.look)
      · rename_i hmk
        refine bodyPost_ret (v := .agg #[.slice none 0 0, .int .i64 13, .int .i64 0]) (by simp [results, Try.results37, go_sem, L4]) rfl ?_
        rw [← HR.out, ffile_some HA.out hpk HB.out hmk]
        exact RetS.of (st := 13) (sn := 0) (qS_close (s := ⟨bs, k + 1, true, se, none⟩) (q := ⟨.slice (some ⟨g0, 0, none⟩) bs.length c2, qvo, qwr, qoa, qobs⟩) (fits_none rfl) (SL.s1 (blk_close HP.out.1 rfl H5.out.set3.drop.s2.s2)))
      · rename_i hmk
        go_roundg (bs.length - (k + 1))
        case measure => omega
        case rel =>
          refine ⟨k + 1, by omega, by omega, fun j c h1 h2 hc => ?_, SL.s1 (blk_close HP.out.1 rfl H4.out.drew.s2.s2)⟩
          by_cases e : j = k
          · subst e; rw [HB.out] at hc; injection hc with hc; rw [← hc]; exact hmk
          · exact HA.out j c h1 (by omega) hc
    · obtain rfl : k = bs.length := by omega
      have HC := Lib.hid (qcheckC 2 H3.out.drew)
      go_wp2_with fail
      go_big_region
      go_wp2_with ((with_reducible refine HC.out.mono ?_); rintro e w4 ⟨rfl, S4⟩; have H5 := Lib.hid S4.s3; clear S4 L K z; obtain ⟨L4, K4, z4⟩ := H5.out.look)
      refine bodyPost_ret (v := .agg #[.slice none 0 0, .int .i64 14, .int .i64 2]) (by simp [results, Try.results37, go_sem, L4]) rfl ?_
      rw [← HR.out, ffile_none HA.out]
      exact RetS.of (st := 14) (sn := 2) (qS_close (s := ⟨bs, bs.length, true, 2, none⟩) (q := ⟨.slice A2 bs.length c2, qvo, qwr, qoa, qobs⟩) (fits_none rfl) H5.out.set3.drop)
set_option maxRecDepth 100000 in
set_option maxHeartbeats 8000000 in
theorem qdo_bfile (A : Option Addr) (n c : Nat) (hl : s.loaded = true) (S : SL W (qS qb nm s :: F) w) (hp : s.pos ≤ s.bs.length) (hf : Fit s.bs) :
    Calls Try.prog 37 #[.pointer (some ⟨qb, 0, none⟩), .int .i64 47, .slice A n c] w fun e w' => RetS W (qS qb nm (snS (tpMove { s with last := none } 47).1 (tpMove { s with last := none } 47).2) :: F) (tpMove { s with last := none } 47).2 e w' := by
  have HF := Lib.hid (And.intro hp hf)
  have hl1 : s.bs.length ≤ 1048576 := hf.1
  clear hp hf
  have HE := Lib.hid (And.intro qfine_any qexc_any); have HK := Lib.hid (known_at 47 true rfl); obtain ⟨h1, L0, K0, z0⟩ := qoff S; have H1 := Lib.hid h1; clear h1 S; obtain ⟨bs, pos, ld, se, la⟩ := s; dsimp only at *; subst hl
  have e0 : tpMove ⟨bs, pos, true, se, none⟩ 47 = (match backTo bs pos with | none => (⟨bs, 0, true, se, none⟩, [], 12, 0) | some k => (⟨bs, k, true, se, none⟩, [], 13, 0)) := by
    unfold tpMove
    rw [if_neg (by decide), if_neg (by decide), if_neg (by decide)]
    dsimp only
    cases backTo bs pos <;> rfl
  rw [e0]
  generalize hr : (match backTo bs pos with | none => ((⟨bs, 0, true, se, none⟩ : TP), (([], 12, 0) : Rep)) | some k => (⟨bs, k, true, se, none⟩, [], 13, 0)) = r
  have HR := Lib.hid hr
  clear hr e0
  go_enter Try.func37, Try.ntmps37
  go_wp2_with ((with_reducible refine (HK.out _).mono ?_); rintro e w2 ⟨rfl, b2⟩; have H2 := Lib.hid (H1.out.grow b2); clear b2 H1 L0 K0 z0; obtain ⟨q2, hq2, S2⟩ := qS_open H2.out.s1; have HQ2 := Lib.hid hq2; have H2o := Lib.hid S2; clear hq2 S2; obtain ⟨L2, K2, z2⟩ := H2o.out.look; obtain ⟨L3, K3, z3⟩ := H2.out.look; dsimp only [qcells] at L2)
  obtain ⟨qv, qvo, qwr, qoa, qobs⟩ := q2
  dsimp only [qcells] at H2o
  obtain ⟨A2, c2, rfl, hc1, hc2⟩ := blksS_slice H2o.out.s1
  generalize w.heap.size = xb at *
  clear L2 K2 z2 L3 K3 z3 H2
  go_loopg [] pos (fun g wr => ∃ k : Nat, k = g ∧ k ≤ pos ∧ backTo bs k = backTo bs pos ∧ SL W (cel qb #[.string nm, .slice A2 bs.length c2, .int .i64 (k : Int), .bool true, .int .i64 (se : Int), .bool false, .bool qwr, qvo, .int .i64 qoa] 67 :: blksS (.slice A2 bs.length c2) bs :: blksS qvo qobs :: cel xb #[.slice none 0 0, .int .i64 0, .int .i64 0] 31 :: F) wr)
  case atStart => exact ⟨pos, rfl, Nat.le_refl _, rfl, H2o.out⟩
  case round =>
    obtain ⟨k, rfl, hk, hb0, S1⟩ := hrel
    have H3 := Lib.hid S1
    have HB0 := Lib.hid hb0
    clear S1 H2o hb0
    obtain ⟨L, K, z⟩ := H3.out.look
    rcases k with _ | j
    · go_wp2_with ((with_reducible refine (HE.out.1 none 0 0 _).mono ?_); rintro e w4 ⟨rfl, b4⟩; have H5 := Lib.hid (H3.out.grow b4).s3; clear b4 L K z; obtain ⟨L4, K4, z4⟩ := H5.out.look)
      refine bodyPost_ret (v := .agg #[.slice none 0 0, .int .i64 12, .int .i64 0]) (by simp [results, Try.results37, go_sem, L4]) rfl ?_
      have e3 : backTo bs pos = none := by rw [← HB0.out]; rfl
      rw [← HR.out, e3]
      exact RetS.of (st := 12) (sn := 0) (qS_close (s := ⟨bs, 0, true, se, none⟩) (q := ⟨.slice A2 bs.length c2, qvo, qwr, qoa, qobs⟩) (fits_none rfl) H5.out.set3.drop)
    · have hlt : j < bs.length := by have := HF.out.1; omega
      obtain ⟨b, hb⟩ : ∃ b, bs[j]? = some b := ⟨bs[j]'hlt, List.getElem?_eq_getElem hlt⟩
      have hgt : decide (((j + 1 : Nat) : Int) > 0) = true := by simp
      obtain ⟨g0, ps, A4, c4, rfl, hps, hpp, S0⟩ := blk_open H3.out.s1 hb
      have HP := Lib.hid (And.intro hps hpp)
      have HB := Lib.hid hb
      have H4 := Lib.hid (SL.set (off := 2) (v := .int .i64 (j : Int)) (cs' := #[.string nm, .slice (some ⟨g0, 0, none⟩) bs.length c2, .int .i64 (j : Int), .bool true, .int .i64 (se : Int), .bool false, .bool qwr, qvo, .int .i64 qoa]) S0.s2 rfl)
      clear hps hpp hb S0
      go_upto_region 41 with fail
      refine name_world (P := Code.wp _ _ _ _) ?_
      intro wd hwd
      rw [← hwd] at H4
      clear hwd L K z
      obtain ⟨L, K, z⟩ := H4.out.look
      obtain ⟨g4, g5, g6⟩ := blk_cells H4.out.s1 HP.out.2
      dsimp only at g4
      go_big_region
      go_wp2_with ((with_reducible refine (HE.out.2 _).mono ?_); rintro e w4 ⟨rfl, b4⟩; have H5 := Lib.hid (H4.out.drew.grow b4).s4; clear b4 L K z g4 g5 g6; obtain ⟨L4, K4, z4⟩ := H5.out.look)
      · rename_i hmk
        refine bodyPost_ret (v := .agg #[.slice none 0 0, .int .i64 13, .int .i64 0]) (by simp [results, Try.results37, go_sem, L4]) rfl ?_
        have e3 : backTo bs pos = some j := by rw [← HB0.out]; exact backTo_stop bs j b HB.out hmk
        rw [← HR.out, e3]
        exact RetS.of (st := 13) (sn := 0) (qS_close (s := ⟨bs, j, true, se, none⟩) (q := ⟨.slice (some ⟨g0, 0, none⟩) bs.length c2, qvo, qwr, qoa, qobs⟩) (fits_none rfl) (SL.s1 (blk_close HP.out.1 rfl H5.out.set3.drop.s2.s2)))
      · rename_i hmk
        go_roundg j
        case measure => omega
        case rel => exact ⟨j, rfl, by omega, by rw [← HB0.out]; exact (backTo_skip bs j b HB.out hmk).symm, SL.s1 (blk_close HP.out.1 rfl H4.out.drew.s2.s2)⟩
end
end Go.Proofs.Ytbbokikjpabfkaa
