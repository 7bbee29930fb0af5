/- Do of the reference: rewinding, writing, moving. -/
import Derived.Test.YtbbokikjpabfkaaQDo
namespace Go.Proofs.Ytbbokikjpabfkaa
open Go.RowKit

section
variable {W w w' : World} {F : List SA} {qb : Nat} {nm : ByteArray} {s : TP}
set_option maxRecDepth 100000 in
set_option maxHeartbeats 8000000 in
theorem qdo_rew (A : Option Addr) (n c : Nat) (hl : s.loaded = true) (S : SL W (qS qb nm s :: F) w) :
    Calls Try.prog 37 #[.pointer (some ⟨qb, 0, none⟩), .int .i64 7, .slice A n c] w fun e w' => RetS W (qS qb nm ⟨s.bs, 0, true, s.sense, none⟩ :: F) ([], 12, 0) e w' := by
  have HE := Lib.hid (And.intro qfine_any qexc_any); have HK := Lib.hid (known_at 7 true rfl); obtain ⟨h1, L0, K0, z0⟩ := qoff S; have H1 := Lib.hid h1; clear h1 S; obtain ⟨bs, pos, ld, se, la⟩ := s; dsimp only at *; subst hl
  go_enter Try.func37, Try.ntmps37
  go_wp2_with (first
    | ((with_reducible refine (HE.out.1 none 0 0 _).mono ?_); rintro e w4 ⟨rfl, b4⟩; have H4 := Lib.hid (SL.s3 ((SL.set (off := 2) (v := .int .i64 0) (cs' := qcells nm ⟨bs, 0, true, se, none⟩ q2) H2o.out rfl).grow b4)); clear b4; obtain ⟨L4, K4, z4⟩ := H4.out.look)
    | ((with_reducible refine (HK.out _).mono ?_); rintro e w2 ⟨rfl, b2⟩; have H2 := Lib.hid (H1.out.grow b2); clear b2 H1 L0 K0 z0; obtain ⟨q2, hq2, S2⟩ := qS_open H2.out.s1; have HQ2 := Lib.hid hq2; have H2o := Lib.hid S2; clear hq2 S2; obtain ⟨L2, K2, z2⟩ := H2o.out.look; obtain ⟨L3, K3, z3⟩ := H2.out.look; dsimp only [qcells] at L2))
  refine bodyPost_ret (v := .agg #[.slice none 0 0, .int .i64 12, .int .i64 0]) (by simp [results, Try.results37, go_sem, L4]) rfl ?_
  exact RetS.of (st := 12) (sn := 0) (qS_close (s := ⟨bs, 0, true, se, none⟩) (fits_none rfl) H4.out.set3.drop)
set_option maxRecDepth 100000 in
set_option maxHeartbeats 8000000 in
theorem qdo_unl (A : Option Addr) (n c : Nat) (hl : s.loaded = true) (S : SL W (qS qb nm s :: F) w) :
    Calls Try.prog 37 #[.pointer (some ⟨qb, 0, none⟩), .int .i64 15, .slice A n c] w fun e w' => RetS W (qS qb nm ⟨s.bs, 0, false, s.sense, none⟩ :: F) ([], 12, 0) e w' := by
  have HE := Lib.hid (And.intro qfine_any qexc_any); have HK := Lib.hid (known_at 15 true rfl); obtain ⟨h1, L0, K0, z0⟩ := qoff S; have H1 := Lib.hid h1; clear h1 S; obtain ⟨bs, pos, ld, se, la⟩ := s; dsimp only at *; subst hl
  go_enter Try.func37, Try.ntmps37
  go_wp2_with (first
    | ((with_reducible refine (HE.out.1 none 0 0 _).mono ?_); rintro e w4 ⟨rfl, b4⟩; have H4 := Lib.hid (SL.s3 ((SL.set (off := 3) (v := .bool false) (cs' := qcells nm ⟨bs, 0, false, se, none⟩ q2) (SL.set (off := 2) (v := .int .i64 0) (cs' := qcells nm ⟨bs, 0, true, se, none⟩ q2) H2o.out rfl) rfl).grow b4)); clear b4; obtain ⟨L4, K4, z4⟩ := H4.out.look)
    | ((with_reducible refine (HK.out _).mono ?_); rintro e w2 ⟨rfl, b2⟩; have H2 := Lib.hid (H1.out.grow b2); clear b2 H1 L0 K0 z0; obtain ⟨q2, hq2, S2⟩ := qS_open H2.out.s1; have HQ2 := Lib.hid hq2; have H2o := Lib.hid S2; clear hq2 S2; obtain ⟨L2, K2, z2⟩ := H2o.out.look; obtain ⟨L3, K3, z3⟩ := H2.out.look; dsimp only [qcells] at L2))
  refine bodyPost_ret (v := .agg #[.slice none 0 0, .int .i64 12, .int .i64 0]) (by simp [results, Try.results37, go_sem, L4]) rfl ?_
  exact RetS.of (st := 12) (sn := 0) (qS_close (s := ⟨bs, 0, false, se, none⟩) (fits_none rfl) H4.out.set3.drop)
theorem qwrite_at (l : List UInt8) (mk : Bool) (A : Option Addr) (c : Nat) (S : SL W (rowS 5 1 (.slice A l.length c) l.length (Lib.byteCells l) :: qS qb nm s :: F) w) (hp : s.pos ≤ s.bs.length) (hf : Fit s.bs) (h40 : s.bs.length ≤ 4096) :
    Calls Try.prog 47 #[.pointer (some ⟨qb, 0, none⟩), .agg #[.bool mk, .slice A l.length c, .bool false]] w fun e w' => RetS W (qS qb nm (snS (tpWrite s ⟨l, mk, false⟩).1 (tpWrite s ⟨l, mk, false⟩).2) :: F) (tpWrite s ⟨l, mk, false⟩).2 e w' :=
  qwrite_any ⟨l, mk, false⟩ A c S hp hf h40
theorem qmark_at (S : SL W (qS qb nm s :: F) w) (hp : s.pos ≤ s.bs.length) (hf : Fit s.bs) (h40 : s.bs.length ≤ 4096) :
    Calls Try.prog 47 #[.pointer (some ⟨qb, 0, none⟩), .agg #[.bool true, .slice none 0 0, .bool false]] w fun e w' => RetS W (qS qb nm (snS (tpWrite s ⟨[], true, false⟩).1 (tpWrite s ⟨[], true, false⟩).2) :: F) (tpWrite s ⟨[], true, false⟩).2 e w' :=
  qwrite_any ⟨[], true, false⟩ none 0 (S.nil _ _) hp hf h40
set_option maxRecDepth 100000 in
set_option maxHeartbeats 8000000 in
theorem qdo_mark (A : Option Addr) (n c : Nat) (hl : s.loaded = true) (S : SL W (qS qb nm s :: F) w) (hp : s.pos ≤ s.bs.length) (hf : Fit s.bs) (h40 : s.bs.length ≤ 4096) :
    Calls Try.prog 37 #[.pointer (some ⟨qb, 0, none⟩), .int .i64 31, .slice A n c] w fun e w' => RetS W (qS qb nm (snS (tpWrite { s with last := none } ⟨[], true, false⟩).1 (tpWrite { s with last := none } ⟨[], true, false⟩).2) :: F) (tpWrite { s with last := none } ⟨[], true, false⟩).2 e w' := by
  have HE := Lib.hid (And.intro qfine_any qexc_any); have HK := Lib.hid (known_at 31 true rfl); obtain ⟨h1, L0, K0, z0⟩ := qoff S; have H1 := Lib.hid h1; clear h1 S; obtain ⟨bs, pos, ld, se, la⟩ := s; dsimp only at *; subst hl
  have HF := Lib.hid (And.intro hp (And.intro hf h40))
  clear hp hf h40
  go_enter Try.func37, Try.ntmps37
  go_wp2_with (first
    | ((with_reducible refine (qmark_at H2.out.s1 HF.out.1 HF.out.2.1 HF.out.2.2).mono ?_); rintro e w4 ⟨A4, c4, rfl, S4⟩; have HX := Lib.hid S4.s2; clear S4; obtain ⟨L4, K4, z4⟩ := HX.out.look)
    | ((with_reducible refine (HK.out _).mono ?_); rintro e w2 ⟨rfl, b2⟩; have H2 := Lib.hid (H1.out.grow b2); clear b2 H1 L0 K0 z0; obtain ⟨q2, hq2, S2⟩ := qS_open H2.out.s1; have HQ2 := Lib.hid hq2; have H2o := Lib.hid S2; clear hq2 S2; obtain ⟨L2, K2, z2⟩ := H2o.out.look; obtain ⟨L3, K3, z3⟩ := H2.out.look; dsimp only [qcells] at L2))
  (refine bodyPost_ret (by simp [results, Try.results37, go_sem, L4]; rfl) rfl ?_; exact ⟨A4, c4, rfl, HX.out.set3.drop⟩)
set_option maxRecDepth 100000 in
set_option maxHeartbeats 8000000 in
theorem qdo_write (A : Option Addr) (l : List UInt8) (c : Nat) (h1 : 1 ≤ l.length) (h2 : l.length ≤ 1024) (hl : s.loaded = true) (S : SL W (qS qb nm s :: F) w) (hr : Rd W F A (Lib.byteCells l)) (hp : s.pos ≤ s.bs.length) (hf : Fit s.bs) (h40 : s.bs.length ≤ 4096) :
    Calls Try.prog 37 #[.pointer (some ⟨qb, 0, none⟩), .int .i64 1, .slice A l.length c] w fun e w' => RetS W (qS qb nm (snS (tpWrite { s with last := none } ⟨l, false, false⟩).1 (tpWrite { s with last := none } ⟨l, false, false⟩).2) :: F) (tpWrite { s with last := none } ⟨l, false, false⟩).2 e w' := by
  have HLN := Lib.hid (And.intro h1 h2)
  have HE := Lib.hid (And.intro qfine_any qexc_any); have HK := Lib.hid (known_at 1 true rfl); obtain ⟨h1, L0, K0, z0⟩ := qoff S; have H1 := Lib.hid h1; clear h1 S; obtain ⟨bs, pos, ld, se, la⟩ := s; dsimp only at *; subst hl
  have HF := Lib.hid (And.intro hp (And.intro hf h40))
  have HR := Lib.hid hr
  clear hp hf h40 hr
  go_enter Try.func37, Try.ntmps37
  go_wp2_with (first
    | ((with_reducible refine (qwrite_at l false A3 c3 H3.out HF.out.1 HF.out.2.1 HF.out.2.2).mono ?_); rintro e w4 ⟨A4, c4, rfl, S4⟩; have HX := Lib.hid S4.s2; clear S4; obtain ⟨L4, K4, z4⟩ := HX.out.look)
    | (at_builtin; refine wpList_appS rfl _ _ _ rfl bElem _ 0 [] rfl (H2.out.lit #[] 5 1 0 rfl (by decide)) w2.heap.size A l.length c (Lib.byteCells l) rfl ((HR.out w2 H2.out.drop.drop).alloc (Nat.le_refl _) _) (by rw [byteCells_len, Nat.mul_one]) (byteCells_one _) (by unfold maxLen; omega) (by omega) ?_
       intro A3 c3 w3 S3
       rw [Nat.zero_add, List.nil_append] at S3
       rw [Nat.zero_add]
       have H3 := Lib.hid S3.s2.s1
       clear S3)
    | ((with_reducible refine (HK.out _).mono ?_); rintro e w2 ⟨rfl, b2⟩; have H2 := Lib.hid (H1.out.grow b2); clear b2 H1 L0 K0 z0; obtain ⟨q2, hq2, S2⟩ := qS_open H2.out.s1; have HQ2 := Lib.hid hq2; have H2o := Lib.hid S2; clear hq2 S2; obtain ⟨L2, K2, z2⟩ := H2o.out.look; obtain ⟨L3, K3, z3⟩ := H2.out.look; dsimp only [qcells] at L2))
  (refine bodyPost_ret (by simp [results, Try.results37, go_sem, L4]; rfl) rfl ?_; exact ⟨A4, c4, rfl, HX.out.set3.drop⟩)
end
end Go.Proofs.Ytbbokikjpabfkaa
