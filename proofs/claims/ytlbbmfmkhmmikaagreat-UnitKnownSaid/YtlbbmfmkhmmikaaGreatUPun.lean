/- The punch of the program. -/
import Derived.Test.YtlbbmfmkhmmikaaGreatKitA
import Derived.Test.YtlbbmfmkhmmikaaGreatUPr
namespace Go.Proofs.YtlbbmfmkhmmikaaGreat.U
open Go.RowKit

/-- A result with new data. -/
def RetS (W : World) (F : List SA) (rd : List UInt8) (st sn : Int) (e : Ending) (w' : World) : Prop :=
  ∃ A c, e = .returned (.agg #[.slice A rd.length c, .int .i64 st, .int .i64 sn]) ∧ SL W (rowS 5 1 (.slice A rd.length c) rd.length (Lib.byteCells rd) :: F) w'
theorem RetS.of {W w' : World} {F : List SA} {st sn : Int} (S : SL W F w') : RetS W F [] st sn (.returned (.agg #[.slice none 0 0, .int .i64 st, .int .i64 sn])) w' := ⟨none, 0, rfl, S.nil _ _⟩
def cardS (p : Value × List UInt8) : SA := rowS 5 1 p.1 p.2.length (Lib.byteCells p.2)
/-- A slice of cards, all of the call's own. -/
def deckS (v : Value) (cs : List (List UInt8)) : SA := fun h => ∃ ps : List (Value × List UInt8), (ps.map Prod.snd = cs) ∧ star [rowS 27 1 v ps.length (ps.map Prod.fst), star (ps.map cardS)] h
theorem deckS_open {W w : World} {F : List SA} {v : Value} {cs : List (List UInt8)} (S : SL W (deckS v cs :: F) w) : ∃ ps : List (Value × List UInt8), (ps.map Prod.snd = cs) ∧ SL W (rowS 27 1 v ps.length (ps.map Prod.fst) :: star (ps.map cardS) :: F) w :=
  S.unpack (K := fun ps : List (Value × List UInt8) => [rowS 27 1 v ps.length (ps.map Prod.fst), star (ps.map cardS)]) fun _ h => h
theorem deckS_close {W w : World} {F : List SA} {v : Value} {ps : List (Value × List UInt8)} (S : SL W (rowS 27 1 v ps.length (ps.map Prod.fst) :: star (ps.map cardS) :: F) w) : SL W (deckS v (ps.map Prod.snd) :: F) w :=
  SL.pack (L := [rowS 27 1 v ps.length (ps.map Prod.fst), star (ps.map cardS)]) S fun _ h => ⟨ps, rfl, h⟩
theorem deckS_close' {W w : World} {F : List SA} {v : Value} {n : Nat} {ps : List (Value × List UInt8)} (hn : n = ps.length) (S : SL W (rowS 27 1 v n (ps.map Prod.fst) :: star (ps.map cardS) :: F) w) : SL W (deckS v (ps.map Prod.snd) :: F) w := by subst hn; exact deckS_close S
theorem deckElem : Elem Tryz.prog 22 27 (.slice none 0 0) 1 24 := ⟨Tryz.underlying22, by kernel_rfl, rfl, by omega⟩
def punchS (pb se : Nat) (cs : List (List UInt8)) : SA := fun h => ∃ v, True ∧ star [cel pb #[.int .i64 (se : Int), v] 120, deckS v cs] h
theorem punchS_open {W w : World} {F : List SA} {pb se : Nat} {cs : List (List UInt8)} (S : SL W (punchS pb se cs :: F) w) : ∃ v, True ∧ SL W (cel pb #[.int .i64 (se : Int), v] 120 :: deckS v cs :: F) w :=
  S.unpack (K := fun v => [cel pb #[.int .i64 (se : Int), v] 120, deckS v cs]) fun _ h => h
theorem punchS_close {W w : World} {F : List SA} {pb se : Nat} {cs : List (List UInt8)} {v : Value} (S : SL W (cel pb #[.int .i64 (se : Int), v] 120 :: deckS v cs :: F) w) : SL W (punchS pb se cs :: F) w :=
  SL.pack (L := [cel pb #[.int .i64 (se : Int), v] 120, deckS v cs]) S fun _ h => ⟨v, trivial, h⟩

def punOwn (cs : List (List UInt8)) (op : Int) (l : List UInt8) : List (List UInt8) × Int × Int :=
  if op ≠ 1 ∨ 80 < l.length then (cs, 14, 128) else if cs.length = 4096 then (cs, 14, 64) else (cs ++ [l ++ List.replicate (80 - l.length) 0x40], 12, 0)

def fillB (l : List UInt8) (k : Nat) : List UInt8 := l ++ List.replicate (k - l.length) 0x40 ++ List.replicate (80 - k) 0
theorem fillB_len (l : List UInt8) (k : Nat) (h : l.length ≤ k) (hk : k ≤ 80) : (fillB l k).length = 80 := by simp [fillB]; omega
theorem fillB_get (l : List UInt8) (k : Nat) (h : l.length ≤ k) (hk : k < 80) : (Lib.byteCells (fillB l k))[k]? = some (.int .u8 0) := by
  rw [Lib.byteCells, List.getElem?_map, fillB, List.getElem?_append_right (by simp; omega)]
  simp
  exact ⟨0, by rw [List.getElem?_replicate, if_pos (by omega)], rfl⟩
theorem fillB_set (l : List UInt8) (k : Nat) (h : l.length ≤ k) (hk : k < 80) : (Lib.byteCells (fillB l k)).toArray.setIfInBounds k (.int .u8 64) = (Lib.byteCells (fillB l (k + 1))).toArray := by
  rw [List.setIfInBounds_toArray]
  congr 1
  rw [Lib.byteCells, Lib.byteCells, show Value.int .u8 64 = (fun b : UInt8 => Value.int .u8 (b.toNat : Int)) 0x40 from rfl, ← List.map_set]
  congr 1
  unfold fillB
  have e1 : List.replicate (80 - k) (0 : UInt8) = 0 :: List.replicate (80 - (k + 1)) 0 := by rw [show 80 - k = (80 - (k + 1)) + 1 by omega, List.replicate_succ]
  have e2 : List.replicate (k + 1 - l.length) (0x40 : UInt8) = List.replicate (k - l.length) 0x40 ++ [0x40] := by rw [show k + 1 - l.length = (k - l.length) + 1 by omega, List.replicate_succ']
  rw [e1, e2, List.set_append_right _ _ (by simp; omega)]
  have e3 : k - (l ++ List.replicate (k - l.length) (0x40 : UInt8)).length = 0 := by simp; omega
  rw [e3]
  simp
theorem splice_made (l : List UInt8) (h : l.length ≤ 80) : splice (madeCells (Value.int .u8 0).cells (80 * 1)).toList 0 ((Lib.byteCells l).take 80) = Lib.byteCells (fillB l l.length) := by
  have hm : (madeCells (Value.int .u8 0).cells (80 * 1)).toList = List.replicate 80 (Value.int .u8 0) := by kernel_rfl
  rw [hm, List.take_of_length_le (by rw [byteCells_len]; exact h)]
  simp only [splice, List.take_zero, List.nil_append, Nat.zero_add, List.drop_replicate, fillB, Nat.sub_self, List.replicate_zero, List.append_nil, Lib.byteCells, List.map_append, List.map_replicate, List.length_map]
  rfl

section
variable {W w : World} {F : List SA}
theorem pun_close {pb se g : Nat} {v : Value} {ps : List (Value × List UInt8)} {l : List UInt8} (hz : l.length ≤ 80)
    (S : SL W (cel pb #[.int .i64 (se : Int), v] 120 :: rowS 27 1 v (ps.length + 1) (ps.map Prod.fst ++ [.slice (some ⟨g, 0, none⟩) 80 80]) :: cel g (Lib.byteCells (fillB l 80)).toArray 5 :: star (ps.map cardS) :: F) w) :
    SL W (punchS pb se (ps.map Prod.snd ++ [l ++ List.replicate (80 - l.length) 0x40]) :: F) w := by
  have S9 := S.s3.s3.unfull (size := 1) (n := 80) (by rw [byteCells_len, fillB_len l 80 hz (Nat.le_refl _)]) (by decide)
  have hf : fillB l 80 = l ++ List.replicate (80 - l.length) 0x40 := by simp [fillB]
  have hl : (fillB l 80).length = 80 := fillB_len l 80 hz (Nat.le_refl _)
  rw [hf] at S9 hl
  have S10 := SL.snoc (P := cardS (.slice (some ⟨g, 0, none⟩) 80 80, l ++ List.replicate (80 - l.length) 0x40)) (by unfold cardS; rw [hl]; exact S9)
  have e1 : ps.map Prod.snd ++ [l ++ List.replicate (80 - l.length) 0x40] = (ps ++ [(Value.slice (some ⟨g, 0, none⟩) 80 80, l ++ List.replicate (80 - l.length) 0x40)]).map Prod.snd := by simp
  rw [e1]
  refine punchS_close (deckS_close (v := v) ?_).s1
  simp only [List.map_append, List.map_cons, List.map_nil, List.length_append, List.length_cons, List.length_nil, Nat.zero_add]
  exact S10.s2
set_option maxRecDepth 100000 in
set_option maxHeartbeats 2000000 in
theorem pun_rej (pb : Nat) (op : Int) (A : Option Addr) (l : List UInt8) (c : Nat) (S : SL W F w) (hz : l.length ≤ maxLen) (h : op ≠ 1 ∨ 80 < l.length) :
    Calls Tryz.prog 198 #[.pointer (some ⟨pb, 0, none⟩), .int .i64 op, .slice A l.length c] w fun e w' => RetS W F [] 14 128 e w' := by
  have HS := Lib.hid S
  unfold maxLen at hz
  clear S
  by_cases h1 : op = 1
  · subst h1
    have h2 : (80 : Int) < (l.length : Int) := by omega
    clear h
    go_enter Tryz.func198, Tryz.ntmps198
    go_wp2_with fail
    refine (check_any _ _).mono ?_
    rintro e w1 ⟨rfl, b1⟩
    have S1 := (HS.out.allocC #[.slice none 0 0, .int .i64 0, .int .i64 0] 30).grow b1
    obtain ⟨L1, F1, _⟩ := S1.look
    have H1 := Lib.hid S1
    clear S1 b1
    go_wp2
    exact bodyPost_ret (v := .agg #[.slice none 0 0, .int .i64 14, .int .i64 128]) (by simp [results, Tryz.results198, go_sem, L1]) rfl (RetS.of (((H1.out.set rfl).set rfl).set rfl).drop)
  · clear h
    go_enter Tryz.func198, Tryz.ntmps198
    go_wp2_with fail
    refine (check_any _ _).mono ?_
    rintro e w1 ⟨rfl, b1⟩
    have S1 := (HS.out.allocC #[.slice none 0 0, .int .i64 0, .int .i64 0] 30).grow b1
    obtain ⟨L1, F1, _⟩ := S1.look
    have H1 := Lib.hid S1
    clear S1 b1
    go_wp2
    exact bodyPost_ret (v := .agg #[.slice none 0 0, .int .i64 14, .int .i64 128]) (by simp [results, Tryz.results198, go_sem, L1]) rfl (RetS.of (((H1.out.set rfl).set rfl).set rfl).drop)
set_option maxRecDepth 100000 in
set_option maxHeartbeats 2000000 in
theorem pun_full (pb se : Nat) (cs : List (List UInt8)) (A : Option Addr) (l : List UInt8) (c : Nat) (S : SL W (punchS pb se cs :: F) w) (hz : l.length ≤ 80) (h : cs.length = 4096) :
    Calls Tryz.prog 198 #[.pointer (some ⟨pb, 0, none⟩), .int .i64 1, .slice A l.length c] w fun e w' => RetS W (punchS pb se cs :: F) [] 14 64 e w' := by
  obtain ⟨v, _, S⟩ := punchS_open S
  obtain ⟨ps, rfl, S'⟩ := deckS_open S.s1
  obtain ⟨Av, cv, rfl, _, _⟩ := own_slice S'.own
  rw [List.length_map] at h
  rw [h] at S S'
  obtain ⟨L0, F0, z0⟩ := S.look
  have HS := Lib.hid S
  have h2 : ¬ (80 : Int) < (l.length : Int) := by omega
  clear S S' h
  go_enter Tryz.func198, Tryz.ntmps198
  go_wp2_with fail
  refine (check_any _ _).mono ?_
  rintro e w1 ⟨rfl, b1⟩
  have S1 := (HS.out.allocC #[.slice none 0 0, .int .i64 0, .int .i64 0] 30).grow b1
  obtain ⟨L1, F1, _⟩ := S1.look
  have H1 := Lib.hid S1
  clear S1 b1
  go_wp2
  exact bodyPost_ret (v := .agg #[.slice none 0 0, .int .i64 14, .int .i64 64]) (by simp [results, Tryz.results198, go_sem, L1]) rfl (RetS.of (punchS_close (((H1.out.set rfl).set rfl).set rfl).drop))
set_option maxRecDepth 100000 in
set_option maxHeartbeats 2000000 in
theorem pun_ok (pb se : Nat) (cs : List (List UInt8)) (A : Option Addr) (l : List UInt8) (c : Nat) (S : SL W (punchS pb se cs :: F) w) (hr : Rd W (punchS pb se cs :: F) A (Lib.byteCells l)) (_hlc : l.length ≤ c) (hz : l.length ≤ 80) (h : cs.length < 4096) :
    Calls Tryz.prog 198 #[.pointer (some ⟨pb, 0, none⟩), .int .i64 1, .slice A l.length c] w fun e w' => RetS W (punchS pb se (cs ++ [l ++ List.replicate (80 - l.length) 0x40]) :: F) [] 12 0 e w' := by
  have HR := Lib.hid hr
  obtain ⟨v, _, S⟩ := punchS_open S
  obtain ⟨ps, rfl, S'⟩ := deckS_open S.s1
  obtain ⟨Av, cv, rfl, _, _⟩ := own_slice S'.own
  rw [List.length_map] at h
  obtain ⟨L0, F0, z0⟩ := S.look
  have HS := Lib.hid S'
  have h2 : ¬ (80 : Int) < (l.length : Int) := by omega
  have h3 : ¬ (ps.length : Int) = 4096 := by omega
  clear S S' hr
  go_enter Tryz.func198, Tryz.ntmps198
  go_wp2_with (first
    | (refine wpList_makeS (by rfl) _ _ _ (by rfl) bElem .i64 .i64 80 80 80 (by rfl) (by rfl) (by rfl) (by rfl) (by decide) (by decide) (HS.out.allocC #[.slice none 0 0, .int .i64 0, .int .i64 0] 30) ?_; intro g w2 S2)
    | (refine wpList_copyS rfl _ _ _ _ rfl bElem g 80 80 _ S2 _ 80 80 0 rfl w2.heap.size A l.length c (Lib.byteCells l) rfl (HR.out _ (punchS_close (deckS_close S2.drop.drop).s1)) (byteCells_len _) (fun _ => rfl) (by omega) (byteCells_one _) ?_; intro w3 S3))
  rw [splice_made l hz] at S3
  have H3 := Lib.hid (S3.full (by omega))
  clear S2 S3 HR L0 F0
  go_loopw [8] (fun i wr => ∃ k : Nat, l.length ≤ k ∧ k ≤ 80 ∧ i = .int .i64 k ∧ SL W (cel g (Lib.byteCells (fillB l k)).toArray 5 :: cel w.heap.size #[.slice none 0 0, .int .i64 0, .int .i64 0] 30 :: rowS 27 1 (.slice Av ps.length cv) ps.length (ps.map Prod.fst) :: star (ps.map cardS) :: cel pb #[.int .i64 (se : Int), .slice Av ps.length cv] 120 :: F) wr) (fun i _ => (80 - intOf i).toNat)
  case atStart => exact ⟨l.length, Nat.le_refl _, hz, by simp, H3.out⟩
  case round =>
    obtain ⟨k, hk1, hk2, rfl, S4⟩ := hrel
    obtain ⟨L4, F4, z4⟩ := S4.look
    have c4 := L4 k
    have H4 := Lib.hid S4
    clear H3 L4 S4
    by_cases hlt : k < 80
    · rw [List.getElem?_toArray, fillB_get l k hk1 hlt] at c4
      go_wp2
      go_roundw
      case rel => exact ⟨k + 1, by omega, by omega, by go_num, H4.out.set (fillB_set l k hk1 hlt)⟩
      case measure => simp [intOf]; omega
    · clear c4
      obtain rfl : k = 80 := by omega
      obtain ⟨Lp, Fp, zp⟩ := H4.out.s4.look
      go_wp2_with (at_builtin; refine wpList_pushS rfl _ _ _ rfl deckElem wr [.slice (some ⟨g, 0, none⟩) 80 80] 1 rfl rfl (by simp [Value.oneCell']) _ ps.length _ rfl rfl H4.out.s2 (by unfold maxLen; omega) (by omega) ?_
                   intro A6 c6 w6 S6
                   obtain ⟨L6, F6, z6⟩ := S6.s4.look
                   have H6 := Lib.hid S6
                   clear S6 H4 Lp Fp)
      have H7 := Lib.hid (H6.out.s4.set (off := 1) (v := .slice A6 (ps.length + 1) c6) rfl)
      refine name_world (P := fun W => Calls _ _ _ W _) ?_
      intro w7 hw7
      rw [← hw7] at H7
      clear hw7 L6 F6 z6 H6
      refine (normal_any _ _ _ _ rfl _).mono ?_
      rintro e w8 ⟨rfl, b8⟩
      have H8 := Lib.hid (H7.out.grow b8)
      obtain ⟨L8, F8, _⟩ := H8.out.s3.look
      clear b8 H7
      go_wp2
      refine bodyPost_ret (v := .agg #[.slice none 0 0, .int .i64 12, .int .i64 0]) (by simp [results, Tryz.results198, go_sem, L8]) rfl (RetS.of ?_)
      exact pun_close hz (((H8.out.s3.set rfl).set rfl).set rfl).drop
end
end Go.Proofs.YtlbbmfmkhmmikaaGreat.U
