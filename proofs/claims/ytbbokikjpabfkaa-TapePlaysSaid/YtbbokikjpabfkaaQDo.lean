/- Do of the reference: all but the two files. -/
import Derived.Test.YtbbokikjpabfkaaQKnown
namespace Go.Proofs.Ytbbokikjpabfkaa
open Go.RowKit

section
variable {W w w' : World} {F : List SA} {qb : Nat} {nm : ByteArray} {s : TP}
theorem qoff (S : SL W (qS qb nm s :: F) w) : SL W (cel w.heap.size #[.slice none 0 0, .int .i64 0, .int .i64 0] 31 :: qS qb nm { s with last := none } :: F) ((w.setCell ⟨qb, 5, none⟩ (.bool false)).alloc (.cells #[.slice none 0 0, .int .i64 0, .int .i64 0] 31)) ∧
    w.cell? ⟨qb, 5, none⟩ = some (.bool s.last.isSome) ∧ (∀ o, w.frozen? ⟨qb, o, none⟩ = false) ∧ qb < w.heap.size := by
  obtain ⟨q, hq, S1⟩ := qS_open S
  obtain ⟨L, K, z⟩ := S1.look
  refine ⟨?_, by rw [L]; rfl, K, z⟩
  have h := (SL.set (off := 5) (v := .bool false) (cs' := qcells nm { s with last := none } q) S1 rfl)
  have h2 := (qS_close (s := { s with last := none }) (fits_none rfl) h).allocC #[.slice none 0 0, .int .i64 0, .int .i64 0] 31
  rw [World.size_setCell] at h2
  exact h2
set_option maxRecDepth 100000 in
set_option maxHeartbeats 8000000 in
theorem qdo_nop (A : Option Addr) (n c : Nat) (S : SL W (qS qb nm s :: F) w) :
    Calls Try.prog 37 #[.pointer (some ⟨qb, 0, none⟩), .int .i64 3, .slice A n c] w fun e w' => RetS W (qS qb nm { s with last := none } :: F) ([], 12, 0) e w' := by
  have HE := Lib.hid (And.intro qfine_any qexc_any)
  have HK := Lib.hid (known_at 3 true rfl)
  obtain ⟨h1, L0, K0, z0⟩ := qoff S
  have H1 := Lib.hid h1
  clear h1 S
  go_enter Try.func37, Try.ntmps37
  go_wp2_with (first
    | ((with_reducible refine (HE.out.1 none 0 0 _).mono ?_); rintro e w4 ⟨rfl, b4⟩; have H4 := Lib.hid (H2.out.grow b4); clear b4; obtain ⟨L4, K4, z4⟩ := H4.out.look)
    | ((with_reducible refine (HK.out _).mono ?_); rintro e w2 ⟨rfl, b2⟩; have H2 := Lib.hid (H1.out.grow b2); clear b2 H1 L0 K0 z0; obtain ⟨q2, hq2, S2⟩ := qS_open H2.out.s1; have HQ2 := Lib.hid hq2; have H2o := Lib.hid S2; clear hq2 S2; obtain ⟨L2, K2, z2⟩ := H2o.out.look; obtain ⟨L3, K3, z3⟩ := H2.out.look; dsimp only [qcells] at L2))
  (refine bodyPost_ret (v := .agg #[.slice none 0 0, .int .i64 12, .int .i64 0]) (by simp [results, Try.results37, go_sem, L4]) rfl (RetS.of (st := 12) (sn := 0) H4.out.set3.drop))
set_option maxRecDepth 100000 in
set_option maxHeartbeats 8000000 in
theorem qdo_rej (op : Int) (A : Option Addr) (n c : Nat) (hop : op ∉ [1, 2, 3, 4, 7, 12, 15, 23, 31, 39, 47, 55, 63]) (S : SL W (qS qb nm s :: F) w) :
    Calls Try.prog 37 #[.pointer (some ⟨qb, 0, none⟩), .int .i64 op, .slice A n c] w fun e w' => RetS W (qS qb nm (snS { s with last := none } ([], 14, 128)) :: F) ([], 14, 128) e w' := by
  have HK := Lib.hid (known_at op false (by rw [decide_eq_false_iff_not]; exact hop))
  obtain ⟨h1, L0, K0, z0⟩ := qoff S
  have H1 := Lib.hid h1
  clear h1 S hop
  go_enter Try.func37, Try.ntmps37
  go_wp2_with (first
    | ((with_reducible refine (qcheck_at 128 128 rfl H2.out.s1).mono ?_); rintro e w4 ⟨rfl, S4⟩; have H4 := Lib.hid S4.s1; clear S4; obtain ⟨L4, K4, z4⟩ := H4.out.look)
    | ((with_reducible refine (HK.out _).mono ?_); rintro e w2 ⟨rfl, b2⟩; have H2 := Lib.hid (H1.out.grow b2); clear b2 H1 L0 K0 z0; obtain ⟨q2, hq2, S2⟩ := qS_open H2.out.s1; have HQ2 := Lib.hid hq2; have H2o := Lib.hid S2; clear hq2 S2; obtain ⟨L2, K2, z2⟩ := H2o.out.look; obtain ⟨L3, K3, z3⟩ := H2.out.look; dsimp only [qcells] at L2))
  (refine bodyPost_ret (v := .agg #[.slice none 0 0, .int .i64 14, .int .i64 128]) (by simp [results, Try.results37, go_sem, L4]) rfl (RetS.of (st := 14) (sn := 128) H4.out.set3.drop))
set_option maxRecDepth 100000 in
set_option maxHeartbeats 8000000 in
theorem qdo_sense (A : Option Addr) (n c : Nat) (hs : s.sense < 256) (S : SL W (qS qb nm s :: F) w) :
    Calls Try.prog 37 #[.pointer (some ⟨qb, 0, none⟩), .int .i64 4, .slice A n c] w fun e w' => RetS W (qS qb nm { s with last := none } :: F) ([UInt8.ofNat s.sense], 12, 0) e w' := by
  have HE := Lib.hid (And.intro qfine_any qexc_any)
  have HK := Lib.hid (known_at 4 true rfl)
  obtain ⟨h1, L0, K0, z0⟩ := qoff S
  have H1 := Lib.hid h1
  have hwr : IntKind.u8.wrap (s.sense : Int) = (s.sense : Int) := by rw [IntKind.wrap_u8]; omega
  clear h1 S
  go_enter Try.func37, Try.ntmps37
  go_wp2_with (first
    | ((with_reducible refine (HE.out.1 (some ⟨w2.heap.size, 0, none⟩) 1 1 _).mono ?_); rintro e w4 ⟨rfl, b4⟩; have H4 := Lib.hid ((H2.out.lit #[.int .u8 (s.sense : Int)] 5 1 1 rfl (by decide)).grow b4).s1; clear b4; obtain ⟨L4, K4, z4⟩ := H4.out.look)
    | ((with_reducible refine (HK.out _).mono ?_); rintro e w2 ⟨rfl, b2⟩; have H2 := Lib.hid (H1.out.grow b2); clear b2 H1 L0 K0 z0; obtain ⟨q2, hq2, S2⟩ := qS_open H2.out.s1; have HQ2 := Lib.hid hq2; have H2o := Lib.hid S2; clear hq2 S2; obtain ⟨L2, K2, z2⟩ := H2o.out.look; obtain ⟨L3, K3, z3⟩ := H2.out.look; dsimp only [qcells] at L2))
  refine bodyPost_ret (v := .agg #[.slice (some ⟨w2.heap.size, 0, none⟩) 1 1, .int .i64 12, .int .i64 0]) (by simp [results, Try.results37, go_sem, L4]) rfl ?_
  have e : Lib.byteCells [UInt8.ofNat s.sense] = [.int .u8 (s.sense : Int)] := by
    simp [Lib.byteCells, UInt8.toNat_ofNat']
    omega
  refine ⟨_, _, rfl, ?_⟩
  show SL W (rowS 5 1 _ 1 (Lib.byteCells [UInt8.ofNat s.sense]) :: _) _
  rw [e]
  exact H4.out.set3.drop
set_option maxRecDepth 100000 in
set_option maxHeartbeats 8000000 in
theorem qdo_off (op : Int) (A : Option Addr) (n c : Nat) (hop : op ∈ [1, 2, 7, 12, 15, 23, 31, 39, 47, 55, 63]) (hl : s.loaded = false) (S : SL W (qS qb nm s :: F) w) :
    Calls Try.prog 37 #[.pointer (some ⟨qb, 0, none⟩), .int .i64 op, .slice A n c] w fun e w' => RetS W (qS qb nm (snS { s with last := none } ([], 14, 64)) :: F) ([], 14, 64) e w' := by
  have HK := Lib.hid (known_at op true (by rw [decide_eq_true_eq]; simp only [knownL, List.mem_cons, List.not_mem_nil, or_false] at hop ⊢; omega))
  obtain ⟨h1, L0, K0, z0⟩ := qoff S
  have H1 := Lib.hid h1
  have e3 : ¬ op = 3 := by simp only [List.mem_cons, List.not_mem_nil, or_false] at hop; omega
  have e4 : ¬ op = 4 := by simp only [List.mem_cons, List.not_mem_nil, or_false] at hop; omega
  clear h1 S hop
  obtain ⟨bs, pos, ld, se, la⟩ := s
  dsimp only at hl
  subst hl
  go_enter Try.func37, Try.ntmps37
  go_wp2_with (first
    | ((with_reducible refine (qcheck_at 64 64 rfl H2.out.s1).mono ?_); rintro e w4 ⟨rfl, S4⟩; have H4 := Lib.hid S4.s1; clear S4; obtain ⟨L4, K4, z4⟩ := H4.out.look)
    | ((with_reducible refine (HK.out _).mono ?_); rintro e w2 ⟨rfl, b2⟩; have H2 := Lib.hid (H1.out.grow b2); clear b2 H1 L0 K0 z0; obtain ⟨q2, hq2, S2⟩ := qS_open H2.out.s1; have HQ2 := Lib.hid hq2; have H2o := Lib.hid S2; clear hq2 S2; obtain ⟨L2, K2, z2⟩ := H2o.out.look; obtain ⟨L3, K3, z3⟩ := H2.out.look; dsimp only [qcells] at L2))
  (refine bodyPost_ret (v := .agg #[.slice none 0 0, .int .i64 14, .int .i64 64]) (by simp [results, Try.results37, go_sem, L4]) rfl (RetS.of (st := 14) (sn := 64) H4.out.set3.drop))
set_option maxRecDepth 100000 in
set_option maxHeartbeats 8000000 in
theorem qdo_long (A : Option Addr) (n c : Nat) (hn : n < 1 ∨ 1024 < n) (hz : n ≤ 1073741824) (hl : s.loaded = true) (S : SL W (qS qb nm s :: F) w) :
    Calls Try.prog 37 #[.pointer (some ⟨qb, 0, none⟩), .int .i64 1, .slice A n c] w fun e w' => RetS W (qS qb nm (snS { s with last := none } ([], 14, 128)) :: F) ([], 14, 128) e w' := by
  have HK := Lib.hid (known_at 1 true rfl)
  obtain ⟨h1, L0, K0, z0⟩ := qoff S
  have H1 := Lib.hid h1
  clear h1 S
  obtain ⟨bs, pos, ld, se, la⟩ := s
  dsimp only at hl
  subst hl
  rcases hn with hn | hn
  · obtain rfl : n = 0 := by omega
    go_enter Try.func37, Try.ntmps37
    go_wp2_with (first
      | ((with_reducible refine (qcheck_at 128 128 rfl H2.out.s1).mono ?_); rintro e w4 ⟨rfl, S4⟩; have H4 := Lib.hid S4.s1; clear S4; obtain ⟨L4, K4, z4⟩ := H4.out.look)
      | ((with_reducible refine (HK.out _).mono ?_); rintro e w2 ⟨rfl, b2⟩; have H2 := Lib.hid (H1.out.grow b2); clear b2 H1 L0 K0 z0; obtain ⟨q2, hq2, S2⟩ := qS_open H2.out.s1; have HQ2 := Lib.hid hq2; have H2o := Lib.hid S2; clear hq2 S2; obtain ⟨L2, K2, z2⟩ := H2o.out.look; obtain ⟨L3, K3, z3⟩ := H2.out.look; dsimp only [qcells] at L2))
    (refine bodyPost_ret (v := .agg #[.slice none 0 0, .int .i64 14, .int .i64 128]) (by simp [results, Try.results37, go_sem, L4]) rfl (RetS.of (st := 14) (sn := 128) H4.out.set3.drop))
  · go_enter Try.func37, Try.ntmps37
    go_wp2_with (first
      | ((with_reducible refine (qcheck_at 128 128 rfl H2.out.s1).mono ?_); rintro e w4 ⟨rfl, S4⟩; have H4 := Lib.hid S4.s1; clear S4; obtain ⟨L4, K4, z4⟩ := H4.out.look)
      | ((with_reducible refine (HK.out _).mono ?_); rintro e w2 ⟨rfl, b2⟩; have H2 := Lib.hid (H1.out.grow b2); clear b2 H1 L0 K0 z0; obtain ⟨q2, hq2, S2⟩ := qS_open H2.out.s1; have HQ2 := Lib.hid hq2; have H2o := Lib.hid S2; clear hq2 S2; obtain ⟨L2, K2, z2⟩ := H2o.out.look; obtain ⟨L3, K3, z3⟩ := H2.out.look; dsimp only [qcells] at L2))
    (refine bodyPost_ret (v := .agg #[.slice none 0 0, .int .i64 14, .int .i64 128]) (by simp [results, Try.results37, go_sem, L4]) rfl (RetS.of (st := 14) (sn := 128) H4.out.set3.drop))
set_option maxRecDepth 100000 in
set_option maxHeartbeats 8000000 in
theorem qdo_erase (A : Option Addr) (n c : Nat) (hl : s.loaded = true) (S : SL W (qS qb nm s :: F) w) (hp : s.pos ≤ s.bs.length) (hf : Fit s.bs) :
    Calls Try.prog 37 #[.pointer (some ⟨qb, 0, none⟩), .int .i64 23, .slice A n c] w fun e w' => RetS W (qS qb nm (tpCut { s with last := none } false) :: F) ([], 12, 0) e w' := by
  have HE := Lib.hid (And.intro qfine_any qexc_any)
  have HK := Lib.hid (known_at 23 true rfl)
  obtain ⟨h1, L0, K0, z0⟩ := qoff S
  have H1 := Lib.hid h1
  have HF := Lib.hid (And.intro hp hf)
  clear h1 S hp hf
  obtain ⟨bs, pos, ld, se, la⟩ := s
  dsimp only at hl
  subst hl
  go_enter Try.func37, Try.ntmps37
  go_wp2_with (first
    | ((with_reducible refine (HE.out.1 none 0 0 _).mono ?_); rintro e w4 ⟨rfl, b4⟩; have H4 := Lib.hid (H3.out.grow b4); clear b4; obtain ⟨L4, K4, z4⟩ := H4.out.look)
    | ((with_reducible refine (qcut_any H2.out.s1 HF.out.1 HF.out.2).mono ?_); rintro e w3 ⟨rfl, S3⟩; have H3 := Lib.hid S3.s1; clear S3 L2 K2 z2 L3 K3 z3; obtain ⟨L3, K3, z3⟩ := H3.out.look)
    | ((with_reducible refine (HK.out _).mono ?_); rintro e w2 ⟨rfl, b2⟩; have H2 := Lib.hid (H1.out.grow b2); clear b2 H1 L0 K0 z0; obtain ⟨q2, hq2, S2⟩ := qS_open H2.out.s1; have HQ2 := Lib.hid hq2; have H2o := Lib.hid S2; clear hq2 S2; obtain ⟨L2, K2, z2⟩ := H2o.out.look; obtain ⟨L3, K3, z3⟩ := H2.out.look; dsimp only [qcells] at L2))
  (refine bodyPost_ret (v := .agg #[.slice none 0 0, .int .i64 12, .int .i64 0]) (by simp [results, Try.results37, go_sem, L4]) rfl (RetS.of (st := 12) (sn := 0) H4.out.set3.drop))
end
end Go.Proofs.Ytbbokikjpabfkaa
