/- The chapter's examples. -/
import Derived.Test.YtbbokikjpabfkaaRCopy
namespace Go.Proofs.Ytbbokikjpabfkaa
open Go.RowKit

abbrev nmV : ByteArray := ⟨#[86, 79, 76, 48, 48, 49]⟩
def bsV : List Blk := [⟨[1, 2, 3], false, false⟩, ⟨[4], false, true⟩, ⟨[], true, false⟩, ⟨[5, 6], false, false⟩]
theorem v1 : tpDo (freshTP bsV) 2 [] = (⟨bsV, 1, true, 0, none⟩, [1, 2, 3], 12, 0) := rfl
theorem v2 : tpDo ⟨bsV, 1, true, 0, none⟩ 2 [] = (⟨bsV, 2, true, 8, none⟩, [], 14, 8) := rfl
theorem v3 : tpDo ⟨bsV, 2, true, 8, none⟩ 2 [] = (⟨bsV, 3, true, 8, none⟩, [], 13, 0) := rfl
theorem v4 : tpDo ⟨bsV, 3, true, 8, none⟩ 2 [] = (⟨bsV, 4, true, 8, none⟩, [5, 6], 12, 0) := rfl
theorem v5 : tpDo ⟨bsV, 4, true, 8, none⟩ 2 [] = (⟨bsV, 4, true, 2, none⟩, [], 14, 2) := rfl
theorem v6 : tpPower ⟨bsV, 4, true, 2, none⟩ = ⟨bsV, 0, true, 0, none⟩ := rfl
theorem v7 : tpDo ⟨bsV, 0, true, 0, none⟩ 1 [7] = (⟨[⟨[7], false, false⟩], 1, true, 0, some (0, bsV, true)⟩, [], 12, 0) := rfl
theorem v8 : tpUndo ⟨[⟨[7], false, false⟩], 1, true, 0, some (0, bsV, true)⟩ 2 = (⟨[⟨[7], false, true⟩], 1, true, 0, none⟩, true) := rfl
theorem v9 : tpUndo ⟨[⟨[7], false, true⟩], 1, true, 0, none⟩ 1 = (⟨[⟨[7], false, true⟩], 1, true, 0, none⟩, false) := rfl
theorem v0 : newErr nmV bsV = 0 := by kernel_rfl
section
variable {W w : World} {F : List SA}
/-- Blocks written out. -/
theorem litV (S : SL W F w) : SL W (blksS (.slice (some ⟨w.heap.size + 3, 0, none⟩) 4 4) bsV :: F) ((((w.alloc (.cells #[.int .u8 1, .int .u8 2, .int .u8 3] 5)).alloc (.cells #[.int .u8 4] 5)).alloc (.cells #[.int .u8 5, .int .u8 6] 5)).alloc
    (.cells #[.bool false, .slice (some ⟨w.heap.size, 0, none⟩) 3 3, .bool false, .bool false, .slice (some ⟨w.heap.size + 1, 0, none⟩) 1 1, .bool true, .bool true, .slice none 0 0, .bool false, .bool false, .slice (some ⟨w.heap.size + 2, 0, none⟩) 2 2, .bool false] 25)) := by
  have h := (((S.lit #[.int .u8 1, .int .u8 2, .int .u8 3] 5 1 3 rfl (by decide)).lit #[.int .u8 4] 5 1 1 rfl (by decide)).lit #[.int .u8 5, .int .u8 6] 5 1 2 rfl (by decide)).lit #[.bool false, .slice (some ⟨w.heap.size, 0, none⟩) 3 3, .bool false, .bool false, .slice (some ⟨w.heap.size + 1, 0, none⟩) 1 1, .bool true, .bool true, .slice none 0 0, .bool false, .bool false, .slice (some ⟨w.heap.size + 2, 0, none⟩) 2 2, .bool false] 25 3 4 rfl (by decide)
  simp only [World.size_alloc] at h
  -- [blocks, 56, 4, 123, F]
  have h1 := h.s3.s3.s3.s3
  have h2 := ((SL.empty h.s3).s1.snoc (L := []) (P := datS (.slice (some ⟨w.heap.size, 0, none⟩) 3 3, ⟨[1, 2, 3], false, false⟩))).s3.snoc (P := datS (.slice (some ⟨w.heap.size + 1, 0, none⟩) 1 1, ⟨[4], false, true⟩))
  have h3 := (SL.nil h2 5 1).snoc (P := datS (.slice none 0 0, ⟨[], true, false⟩))
  have h4 := h3.s2.snoc (P := datS (.slice (some ⟨w.heap.size + 2, 0, none⟩) 2 2, ⟨[5, 6], false, false⟩))
  exact blksS_close (ps := [(.slice (some ⟨w.heap.size, 0, none⟩) 3 3, ⟨[1, 2, 3], false, false⟩), (.slice (some ⟨w.heap.size + 1, 0, none⟩) 1 1, ⟨[4], false, true⟩), (.slice none 0 0, ⟨[], true, false⟩), (.slice (some ⟨w.heap.size + 2, 0, none⟩) 2 2, ⟨[5, 6], false, false⟩)]) (h4.s1.head rowT_of)
theorem lit7 (S : SL W F w) : SL W (blksS (.slice (some ⟨w.heap.size + 1, 0, none⟩) 1 1) [⟨[7], false, true⟩] :: F) ((w.alloc (.cells #[.int .u8 7] 5)).alloc (.cells #[.bool false, .slice (some ⟨w.heap.size, 0, none⟩) 1 1, .bool true] 25)) := by
  have h := (S.lit #[.int .u8 7] 5 1 1 rfl (by decide)).lit #[.bool false, .slice (some ⟨w.heap.size, 0, none⟩) 1 1, .bool true] 25 3 1 rfl (by decide)
  simp only [World.size_alloc] at h
  have h2 := (SL.empty h).s2.snoc (L := []) (P := datS (.slice (some ⟨w.heap.size, 0, none⟩) 1 1, ⟨[7], false, true⟩))
  exact blksS_close (ps := [(.slice (some ⟨w.heap.size, 0, none⟩) 1 1, ⟨[7], false, true⟩)]) (h2.s1.head rowT_of)
theorem bsV_fit : ∀ b ∈ bsV, b.data.length ≤ 1073741824 := by
  intro b hb
  simp only [bsV, List.mem_cons, List.not_mem_nil, or_false] at hb
  rcases hb with rfl | rfl | rfl | rfl <;> decide
theorem bsV_fit2 : ∀ b ∈ [(⟨[7], false, true⟩ : Blk)], b.data.length ≤ 1073741824 := by
  intro b hb
  simp only [List.mem_cons, List.not_mem_nil, or_false] at hb
  subst hb; decide
theorem bsV_ok {n se : Nat} (hn : n ≤ 4) (hs : se < 256) : (⟨bsV, n, true, se, none⟩ : TP).ok :=
  ⟨hn, (by decide : bsV.length ≤ 4096), fun b hb => by simp only [bsV, List.mem_cons, List.not_mem_nil, or_false] at hb; rcases hb with rfl | rfl | rfl | rfl <;> decide, hs, fun a o b e => by cases e⟩
theorem v7_ok : (⟨[⟨[7], false, false⟩], 1, true, 0, some (0, bsV, true)⟩ : TP).ok := by
  have h := (do_ok ⟨bsV, 0, true, 0, none⟩ 1 [7] (bsV_ok (by decide) (by decide))).1
  rw [v7] at h
  exact h
theorem v8_ok : (⟨[⟨[7], false, true⟩], 1, true, 0, none⟩ : TP).ok := by
  have h := undo_ok _ 2 v7_ok
  rw [v8] at h
  exact h
theorem do_eq {tb : Nat} {name : ByteArray} {s s2 : TP} {r : Rep} (op : Int) (A : Option Addr) (l : List UInt8) (c : Nat) (e : tpDo s op l = (s2, r)) (hn : name.toList.isEmpty = false) (ok : s.ok) (S : SL W (tapeS tb name s :: F) w) (hr : Rd W F A (Lib.byteCells l)) (hz : l.length ≤ 1073741824) :
    Calls Try.prog 11 #[.pointer (some ⟨tb, 0, none⟩), .int .i64 op, .slice A l.length c] w fun e w' => RetS W (tapeS tb name s2 :: F) r e w' := by
  have h := do_any op A l c hn ok S hr hz
  rw [e] at h
  exact h
theorem undo_eq {tb : Nat} {name : ByteArray} {s s2 : TP} {q : Bool} (how : Int) (e : tpUndo s how = (s2, q)) (ok : s.ok) (S : SL W (tapeS tb name s :: F) w) :
    Calls Try.prog 21 #[.pointer (some ⟨tb, 0, none⟩), .int .i64 how] w fun e w' => e = .returned (.bool q) ∧ SL W (tapeS tb name s2 :: F) w' := by
  have h := undo_any how S ok
  rw [e] at h
  exact h
theorem new_eq (s : ByteArray) (A : Option Addr) (bs : List Blk) (c : Nat) (e : newErr s bs = 0) (S : SL W F w) (hr : BlksRd W F A bs) (hs : s.size ≤ 1073741824) (hb : bs.length ≤ maxLen) (hd : ∀ b ∈ bs, b.data.length ≤ 1073741824) :
    Calls Try.prog 10 #[.string s, .slice A bs.length c] w fun e w' => ∃ tb, e = .returned (.tuple #[.pointer (some ⟨tb, 0, none⟩), .int .i64 0]) ∧ SL W (tapeS tb s (freshTP bs) :: F) w' :=
  (new_any s A bs c S hr hs hb hd).mono fun e' w' h => by
    unfold NewS at h
    rw [if_pos e] at h
    exact h
set_option maxHeartbeats 8000000 in
theorem works_any (w : World) : Calls Try.prog 13 #[] w fun e w' => e = .returned (.bool true) ∧ Below w.heap.size w w' := by
  have H0 := Lib.hid (litV (SL.start w))
  have HN : Hid (Calls Try.prog 10 #[.string ⟨#[86, 79, 76, 48, 48, 49]⟩, .slice (some ⟨w.heap.size + 3, 0, none⟩) 4 4] _ fun e w' => ∃ tb, e = .returned (.tuple #[.pointer (some ⟨tb, 0, none⟩), .int .i64 0]) ∧ SL w (tapeS tb nmV (freshTP bsV) :: _) w') := Lib.hid (new_eq nmV (some ⟨w.heap.size + 3, 0, none⟩) bsV 4 v0 H0.out BlksRd.head (by decide) (by decide) bsV_fit)
  have D1 : Hid (∀ (w1 : World) (tb : Nat) (F : List SA), SL w (tapeS tb nmV (freshTP bsV) :: F) w1 → Calls Try.prog 11 #[.pointer (some ⟨tb, 0, none⟩), .int .i64 2, .slice none 0 0] w1 fun e w' => RetS w (tapeS tb nmV ⟨bsV, 1, true, 0, none⟩ :: F) ([1, 2, 3], 12, 0) e w') := Lib.hid (fun w1 tb F S => do_eq 2 none [] 0 v1 (by kernel_rfl) (bsV_ok (by decide) (by decide)) S Rd.nil_ (by decide))
  have D2 : Hid (∀ (w1 : World) (tb : Nat) (F : List SA), SL w (tapeS tb nmV ⟨bsV, 1, true, 0, none⟩ :: F) w1 → Calls Try.prog 11 #[.pointer (some ⟨tb, 0, none⟩), .int .i64 2, .slice none 0 0] w1 fun e w' => RetS w (tapeS tb nmV ⟨bsV, 2, true, 8, none⟩ :: F) ([], 14, 8) e w') := Lib.hid (fun w1 tb F S => do_eq 2 none [] 0 v2 (by kernel_rfl) (bsV_ok (by decide) (by decide)) S Rd.nil_ (by decide))
  have D3 : Hid (∀ (w1 : World) (tb : Nat) (F : List SA), SL w (tapeS tb nmV ⟨bsV, 2, true, 8, none⟩ :: F) w1 → Calls Try.prog 11 #[.pointer (some ⟨tb, 0, none⟩), .int .i64 2, .slice none 0 0] w1 fun e w' => RetS w (tapeS tb nmV ⟨bsV, 3, true, 8, none⟩ :: F) ([], 13, 0) e w') := Lib.hid (fun w1 tb F S => do_eq 2 none [] 0 v3 (by kernel_rfl) (bsV_ok (by decide) (by decide)) S Rd.nil_ (by decide))
  have D4 : Hid (∀ (w1 : World) (tb : Nat) (F : List SA), SL w (tapeS tb nmV ⟨bsV, 3, true, 8, none⟩ :: F) w1 → Calls Try.prog 11 #[.pointer (some ⟨tb, 0, none⟩), .int .i64 2, .slice none 0 0] w1 fun e w' => RetS w (tapeS tb nmV ⟨bsV, 4, true, 8, none⟩ :: F) ([5, 6], 12, 0) e w') := Lib.hid (fun w1 tb F S => do_eq 2 none [] 0 v4 (by kernel_rfl) (bsV_ok (by decide) (by decide)) S Rd.nil_ (by decide))
  have D5 : Hid (∀ (w1 : World) (tb : Nat) (F : List SA), SL w (tapeS tb nmV ⟨bsV, 4, true, 8, none⟩ :: F) w1 → Calls Try.prog 11 #[.pointer (some ⟨tb, 0, none⟩), .int .i64 2, .slice none 0 0] w1 fun e w' => RetS w (tapeS tb nmV ⟨bsV, 4, true, 2, none⟩ :: F) ([], 14, 2) e w') := Lib.hid (fun w1 tb F S => do_eq 2 none [] 0 v5 (by kernel_rfl) (bsV_ok (by decide) (by decide)) S Rd.nil_ (by decide))
  go_enter Try.func13, Try.ntmps13
  go_upto_region 5 with (first
    | ((with_reducible refine (D5.out _ tb _ H4.out.s1).mono ?_); rintro e w5 ⟨A5, c5, rfl, S5⟩; dsimp only [List.length_nil, List.length_cons, Nat.zero_add] at S5 ⊢; have H5 := Lib.hid S5; clear S5 H4)
    | ((with_reducible refine (D4.out _ tb _ H3.out.s1).mono ?_); rintro e w4 ⟨A4, c4, rfl, S4⟩; have H4 := Lib.hid S4; clear S4 H3)
    | ((with_reducible refine (D3.out _ tb _ H2.out.s1).mono ?_); rintro e w3 ⟨A3, c3, rfl, S3⟩; have H3 := Lib.hid S3; clear S3 H2)
    | ((with_reducible refine (D2.out _ tb _ H1.out.s1).mono ?_); rintro e w2 ⟨A2, c2, rfl, S2⟩; have H2 := Lib.hid S2; clear S2 H1)
    | ((with_reducible refine (D1.out _ tb _ HB.out).mono ?_); rintro e w1 ⟨A1, c1, rfl, S1⟩; have H1 := Lib.hid S1; clear S1 HB)
    | ((with_reducible refine HN.out.mono ?_); rintro e w0 ⟨tb, rfl, S0⟩; have HB := Lib.hid S0; clear S0))
  have H6 := (((((H5.out.allocC #[.slice A1 3 c1, .int .i64 12, .int .i64 0] 31).allocC #[.slice A2 0 c2, .int .i64 14, .int .i64 8] 31).allocC #[.slice A3 0 c3, .int .i64 13, .int .i64 0] 31).allocC #[.slice A4 2 c4, .int .i64 12, .int .i64 0] 31).allocC #[.slice A5 0 c5, .int .i64 14, .int .i64 2] 31)
  simp only [World.size_alloc] at H6
  have H6 := Lib.hid H6
  refine name_world (P := Code.wp _ _ _ _) ?_
  intro wd hwd
  rw [← hwd] at H6
  clear hwd H5
  obtain ⟨L5, K5, z5⟩ := H6.out.look
  obtain ⟨L4, K4, z4⟩ := H6.out.s1.look
  obtain ⟨L3, K3, z3⟩ := H6.out.s2.look
  obtain ⟨L2, K2, z2⟩ := H6.out.s3.look
  obtain ⟨L1, K1, z1⟩ := H6.out.s4.look
  have HC1 : (convert 23 9 (.slice A1 3 c1)).run Try.prog wd = .ok (.string ⟨#[1, 2, 3]⟩) wd := run_string_of_at (P := Try.prog) 23 9 5 Try.underlying23 Try.underlying5 Try.underlying9 [1, 2, 3] c1 H6.out.drop.drop.drop.drop.drop.s5.at_
  have HC4 : (convert 23 9 (.slice A4 2 c4)).run Try.prog wd = .ok (.string ⟨#[5, 6]⟩) wd := run_string_of_at (P := Try.prog) 23 9 5 Try.underlying23 Try.underlying5 Try.underlying9 [5, 6] c4 H6.out.drop.drop.drop.drop.drop.s2.at_
  have t1 : ((⟨#[1, 2, 3]⟩ : ByteArray) != ⟨#[1, 2, 3]⟩) = false := bytes_ne _
  have t4 : ((⟨#[5, 6]⟩ : ByteArray) != ⟨#[5, 6]⟩) = false := bytes_ne _
  have H7 := Lib.hid (H6.out.drop.drop.drop.drop.drop.s1.only)
  clear H6 D1 D2 D3 D4 D5 HN H0
  go_upto_region 7 with fail
  clear HC1 HC4 t1 t4 L1 L2 L3 L4 L5 K1 K2 K3 K4 K5 z1 z2 z3 z4 z5
  have DP : Hid (∀ (w1 : World) (tb : Nat) (F : List SA), SL w (tapeS tb nmV ⟨bsV, 4, true, 2, none⟩ :: F) w1 → Calls Try.prog 15 #[.pointer (some ⟨tb, 0, none⟩)] w1 fun e w' => e = .returned (.tuple #[]) ∧ SL w (tapeS tb nmV ⟨bsV, 0, true, 0, none⟩ :: F) w') := Lib.hid (fun w1 tb F S => power_any (by kernel_rfl) S)
  have D7 : Hid (∀ (w1 : World) (tb : Nat) (A : Option Addr) (F : List SA), SL w (tapeS tb nmV ⟨bsV, 0, true, 0, none⟩ :: rowS 5 1 (.slice A 1 1) 1 [.int .u8 7] :: F) w1 → Calls Try.prog 11 #[.pointer (some ⟨tb, 0, none⟩), .int .i64 1, .slice A 1 1] w1 fun e w' => RetS w (tapeS tb nmV ⟨[⟨[7], false, false⟩], 1, true, 0, some (0, bsV, true)⟩ :: rowS 5 1 (.slice A 1 1) 1 [.int .u8 7] :: F) ([], 12, 0) e w') := Lib.hid (fun w1 tb A F S => do_eq 1 A [7] 1 v7 (by kernel_rfl) (bsV_ok (by decide) (by decide)) S Rd.head (by decide))
  have DA : Hid (∀ (w1 : World) (tb : Nat) (F : List SA), SL w (tapeS tb nmV ⟨[⟨[7], false, false⟩], 1, true, 0, some (0, bsV, true)⟩ :: F) w1 → Calls Try.prog 14 #[.pointer (some ⟨tb, 0, none⟩)] w1 fun e w' => e = .returned (.int .i64 1) ∧ SL w (tapeS tb nmV ⟨[⟨[7], false, false⟩], 1, true, 0, some (0, bsV, true)⟩ :: F) w') := Lib.hid (fun w1 tb F S => at_any S)
  have U2 : Hid (∀ (w1 : World) (tb : Nat) (F : List SA), SL w (tapeS tb nmV ⟨[⟨[7], false, false⟩], 1, true, 0, some (0, bsV, true)⟩ :: F) w1 → Calls Try.prog 21 #[.pointer (some ⟨tb, 0, none⟩), .int .i64 2] w1 fun e w' => e = .returned (.bool true) ∧ SL w (tapeS tb nmV ⟨[⟨[7], false, true⟩], 1, true, 0, none⟩ :: F) w') := Lib.hid (fun w1 tb F S => undo_eq 2 v8 v7_ok S)
  have U1 : Hid (∀ (w1 : World) (tb : Nat) (F : List SA), SL w (tapeS tb nmV ⟨[⟨[7], false, true⟩], 1, true, 0, none⟩ :: F) w1 → Calls Try.prog 21 #[.pointer (some ⟨tb, 0, none⟩), .int .i64 1] w1 fun e w' => e = .returned (.bool false) ∧ SL w (tapeS tb nmV ⟨[⟨[7], false, true⟩], 1, true, 0, none⟩ :: F) w') := Lib.hid (fun w1 tb F S => undo_eq 1 v9 v8_ok S)
  have DB : Hid (∀ (w1 : World) (tb : Nat) (F : List SA), SL w (tapeS tb nmV ⟨[⟨[7], false, true⟩], 1, true, 0, none⟩ :: F) w1 → Calls Try.prog 12 #[.pointer (some ⟨tb, 0, none⟩)] w1 fun e w' => ∃ A c, e = .returned (.slice A 1 c) ∧ SL w (blksS (.slice A 1 c) [⟨[7], false, true⟩] :: tapeS tb nmV ⟨[⟨[7], false, true⟩], 1, true, 0, none⟩ :: F) w') := Lib.hid (fun w1 tb F S => (blocks_any S v8_ok.fit).mono fun e w' h => by
    obtain ⟨v, rfl, h⟩ := h
    obtain ⟨A, c, rfl, _, _⟩ := blksS_slice h
    exact ⟨A, c, rfl, h⟩)
  have DS : Hid (∀ (w1 : World) (A A2 : Option Addr) (c c2 : Nat) (F : List SA), SL w (blksS (.slice A2 1 c2) [⟨[7], false, true⟩] :: blksS (.slice A 1 c) [⟨[7], false, true⟩] :: F) w1 → Calls Try.prog 20 #[.slice A 1 c, .slice A2 1 c2] w1 fun e w' => e = .returned (.bool true) ∧ SL w (blksS (.slice A2 1 c2) [⟨[7], false, true⟩] :: blksS (.slice A 1 c) [⟨[7], false, true⟩] :: F) w') := Lib.hid (fun w1 A A2 c c2 F S => rsame_any A A2 [⟨[7], false, true⟩] c c2 S BlksRd.head.cons BlksRd.head (by decide) bsV_fit2)
  go_wp2_with (first
    | ((with_reducible refine (DS.out _ _ _ _ _ _ (lit7 H13.out)).mono ?_); rintro e w14 ⟨rfl, S14⟩; have H14 := Lib.hid S14; clear S14 H13)
    | ((with_reducible refine (DB.out _ tb _ H12.out).mono ?_); rintro e w13 ⟨A13, c13, rfl, S13⟩; have H13 := Lib.hid S13; clear S13 H12)
    | ((with_reducible refine (U1.out _ tb _ H11.out).mono ?_); rintro e w12 ⟨rfl, S12⟩; have H12 := Lib.hid S12; clear S12 H11)
    | ((with_reducible refine (U2.out _ tb _ H10.out).mono ?_); rintro e w11 ⟨rfl, S11⟩; have H11 := Lib.hid S11; clear S11 H10)
    | ((with_reducible refine (DA.out _ tb _ (SL.drop (SL.alloc H9.out _))).mono ?_); rintro e w10 ⟨rfl, S10⟩; have H10 := Lib.hid S10; clear S10 H9)
    | ((with_reducible refine (D7.out _ tb _ _ (SL.s1 (SL.lit H8.out #[.int .u8 7] 5 1 1 rfl (by decide)))).mono ?_); rintro e w9 ⟨A9, c9, rfl, S9⟩; dsimp only [List.length_nil] at S9 ⊢; have H9 := Lib.hid S9.drop; clear S9 H8)
    | ((with_reducible refine (DP.out _ tb _ H7.out).mono ?_); rintro e w8 ⟨rfl, S8⟩; have H8 := Lib.hid S8; clear S8 H7))
  go_ret
  exact ⟨rfl, H14.out.below⟩
end
end Go.Proofs.Ytbbokikjpabfkaa
