/- The walk of TapeFull. -/
import Derived.Test.YtbbokikjpabfkaaOf
namespace Go.Proofs.Ytbbokikjpabfkaa
open Go.RowKit

def mkB : Blk := ⟨[], true, false⟩
def zB : Blk := ⟨[], false, false⟩
abbrev nm0 : ByteArray := ⟨#[48]⟩
/-- The longest tape, of marks. -/
def fbs (n : Nat) : List Blk := List.replicate n mkB
theorem fbs_len (n : Nat) : (fbs n).length = n := List.length_replicate
theorem fbs_get (n k : Nat) (h : k < n) : (fbs n)[k]? = some mkB := by unfold fbs; rw [List.getElem?_replicate, if_pos h]
theorem ff_do (n k : Nat) (h : k < n) : tpDo ⟨fbs n, k, true, 0, none⟩ 63 [] = (⟨fbs n, k + 1, true, 0, none⟩, [], 13, 0) := by
  have e : ((fbs n).drop k).findIdx? (·.mark) = some 0 := by
    unfold fbs
    rw [List.drop_replicate, show n - k = (n - k - 1) + 1 by omega, List.replicate_succ]
    rfl
  refine do_of ?_ (by decide)
  show tpMove ⟨fbs n, k, true, 0, none⟩ 63 = _
  unfold tpMove
  rw [if_neg (by decide), if_neg (by decide), if_pos rfl]
  simp only [e]
def opB (mark : Bool) : Int := if mark then 31 else 1
def newB (mark : Bool) (x : UInt8) : Blk := if mark then ⟨[], true, false⟩ else ⟨[x], false, false⟩
theorem full_do (bs : List Blk) (mark : Bool) (x : UInt8) : tpDo ⟨bs, 4096, true, 0, none⟩ (opB mark) [x] = (⟨bs, 4096, true, 1, none⟩, [], 14, 1) := by
  cases mark
  · exact do_of14 (s2 := ⟨bs, 4096, true, 0, none⟩) (r := ([], 14, 1)) rfl rfl
  · exact do_of14 (s2 := ⟨bs, 4096, true, 0, none⟩) (r := ([], 14, 1)) rfl rfl
theorem back_do (n : Nat) : tpDo ⟨fbs (n + 1), n + 1, true, 1, none⟩ 47 [] = (⟨fbs (n + 1), n, true, 1, none⟩, [], 13, 0) := by
  have e : backTo (fbs (n + 1)) (n + 1) = some n := backTo_stop _ _ mkB (fbs_get _ _ (by omega)) rfl
  refine do_of ?_ (by decide)
  show tpMove ⟨fbs (n + 1), n + 1, true, 1, none⟩ 47 = _
  unfold tpMove
  rw [if_neg (by decide), if_neg (by decide), if_neg (by decide)]
  simp only [e]
theorem last_do (n : Nat) (h : n ≠ 4096) (mark : Bool) (x : UInt8) : ∃ la, tpDo ⟨fbs (n + 1), n, true, 1, none⟩ (opB mark) [x] = (⟨fbs n ++ [newB mark x], n + 1, true, 1, la⟩, [], 12, 0) := by
  have e : (fbs (n + 1)).take n = fbs n := by unfold fbs; rw [List.take_replicate, Nat.min_eq_left (by omega)]
  have hw : ∀ b : Blk, tpWrite ⟨fbs (n + 1), n, true, 1, none⟩ b = (⟨fbs n ++ [b], n + 1, true, 1, some (n, (fbs (n + 1)).drop n, !b.mark)⟩, [], 12, 0) := fun b => by
    unfold tpWrite
    rw [if_neg h]
    simp only [e, tpCut]
  cases mark
  · exact ⟨_, do_of (hw ⟨[x], false, false⟩) (by decide)⟩
  · exact ⟨_, do_of (hw ⟨[], true, false⟩) (by decide)⟩
theorem made_blks (n : Nat) : (madeCells (Value.agg #[.bool false, .slice none 0 0, .bool false]).cells (n * 3)).toList = (List.replicate n ((.slice none 0 0, zB) : BV)).flatMap blkCells := by
  apply List.ext_getElem?
  intro j
  have hl : ((List.replicate n ((.slice none 0 0, zB) : BV)).flatMap blkCells).length = n * 3 := by rw [blk_len, List.length_replicate]
  by_cases hj : j < n * 3
  · obtain ⟨i, k, hk, rfl⟩ : ∃ i k, k < 3 ∧ j = i * 3 + k := ⟨j / 3, j % 3, Nat.mod_lt _ (by omega), by omega⟩
    rw [blkCells_get _ i k (.slice none 0 0, zB) (by rw [List.getElem?_replicate, if_pos (by omega)]) hk]
    rw [Array.getElem?_toList, madeCells]
    rw [Array.getElem?_map, Array.getElem?_range, if_pos hj]
    show some ((#[Value.bool false, .slice none 0 0, .bool false])[(i * 3 + k) % 3]!) = _
    rw [show (i * 3 + k) % 3 = k by omega]
    match k, hk with
    | 0, _ => rfl
    | 1, _ => rfl
    | 2, _ => rfl
  · rw [List.getElem?_eq_none (by rw [Array.length_toList, size_madeCells]; omega), List.getElem?_eq_none (by omega)]
section
variable {W w : World} {F : List SA}
theorem nils (S : SL W F w) : ∀ n, SL W (star ((List.replicate n ((.slice none 0 0, zB) : BV)).map datS) :: F) w
  | 0 => SL.empty S
  | n + 1 => by
    rw [List.replicate_succ', List.map_append]
    exact SL.snoc (P := datS (.slice none 0 0, zB)) (SL.nil (nils S n) 5 1)
/-- The mark of a block is laid anew. -/
theorem blk_modm (ps : List BV) (i : Nat) (v : Value) (b : Blk) (u : Bool) (h : ps[i]? = some (v, b)) : (ps.set i (v, { b with mark := u })).map Prod.snd = (ps.map Prod.snd).modify i fun b => { b with mark := u } := by
  have hl : i < ps.length := by rw [List.getElem?_eq_some_iff] at h; exact h.1
  rw [List.map_set]
  apply List.ext_getElem?
  intro j
  rw [List.getElem?_set, List.getElem?_modify]
  by_cases hij : i = j
  · subst hij
    rw [List.getElem?_eq_getElem hl] at h
    injection h with h
    simp [h, hl]
  · simp [hij]
theorem dats_setm (ps : List BV) (i : Nat) (v : Value) (b : Blk) (u : Bool) (h : ps[i]? = some (v, b)) : (ps.set i (v, { b with mark := u })).map datS = ps.map datS := by
  have hl : i < ps.length := by rw [List.getElem?_eq_some_iff] at h; exact h.1
  rw [List.map_set]
  apply List.ext_getElem?
  intro j
  rw [List.getElem?_set]
  by_cases hij : i = j
  · subst hij
    rw [if_pos rfl, if_pos (by simpa using hl), List.getElem?_map, h]
    rfl
  · rw [if_neg hij]
theorem blk_setm (ps : List BV) (i : Nat) (v : Value) (b : Blk) (u : Bool) (h : ps[i]? = some (v, b)) : (ps.flatMap blkCells).set (i * 3) (.bool u) = (ps.set i (v, { b with mark := u })).flatMap blkCells := by
  induction ps generalizing i with
  | nil => simp at h
  | cons p ps ih =>
    cases i with
    | zero =>
      simp at h; subst h
      simp [blkCells]
    | succ i =>
      simp only [List.set_cons_succ, List.flatMap_cons]
      rw [List.set_append_right _ _ (by simp [blkCells]; omega), show (i + 1) * 3 - (blkCells p).length = i * 3 by simp [blkCells]; omega, ih i (by simpa using h)]
/-- 'l[i].Mark = u' -/
theorem setmark {g n c i : Nat} {bs : List Blk} {b : Blk} (S : SL W (blksS (.slice (some ⟨g, 0, none⟩) n c) bs :: F) w) (hn : n = bs.length) (hb : bs[i]? = some b) (u : Bool) :
    w.cell? ⟨g, i * 3, none⟩ = some (.bool b.mark) ∧ w.frozen? ⟨g, i * 3, none⟩ = false ∧ SL W (blksS (.slice (some ⟨g, 0, none⟩) n c) (bs.modify i fun b => { b with mark := u }) :: F) (w.setCell ⟨g, i * 3, none⟩ (.bool u)) := by
  subst hn
  obtain ⟨g', ps, A4, c4, hA, hps, hpp, S0⟩ := blk_open S hb
  injection hA with hA; injection hA with hA; subst hA
  obtain ⟨k3, S3⟩ := rowT_set (j := i * 3) S0 (.bool u)
  refine ⟨(blk_cells S0 hpp).1, k3 _, ?_⟩
  rw [blk_setm ps i _ b u hpp] at S3
  have h4 := S3.s1
  rw [← dats_setm ps i _ b u hpp] at h4
  exact blk_close (by rw [blk_modm ps i _ b u hpp, hps]) (by simp) h4.s1
end
theorem marks_next (n k : Nat) (h : k < n) : (List.replicate k mkB ++ List.replicate (n - k) zB).modify k (fun b => { b with mark := true }) = List.replicate (k + 1) mkB ++ List.replicate (n - (k + 1)) zB := by
  apply List.ext_getElem?
  intro j
  rw [List.getElem?_modify]
  by_cases hj : j < n
  · by_cases h1 : j < k
    · rw [List.getElem?_append_left (by simpa using h1), List.getElem?_append_left (by simp; omega)]
      simp [List.getElem?_replicate, h1, show j < k + 1 by omega, show ¬ k = j by omega]
    · by_cases h2 : j = k
      · subst h2
        rw [List.getElem?_append_right (by simp), List.getElem?_append_left (by simp)]
        simp [List.getElem?_replicate, mkB, zB]
        omega
      · rw [List.getElem?_append_right (by simp; omega), List.getElem?_append_right (by simp; omega)]
        simp [List.getElem?_replicate, show ¬ k = j by omega, show j - k < n - k by omega, show j - (k + 1) < n - (k + 1) by omega]
        try omega
  · rw [List.getElem?_eq_none (by simp; omega), List.getElem?_eq_none (by simp; omega)]
    simp
theorem full_new (n : Nat) (hn : n ≤ 4096) : newErr nm0 (fbs n) = 0 := by
  have h1 : serOk nm0 = true := by kernel_rfl
  have h2 : (fbs n).all blkOk = true := by
    rw [List.all_eq_true]
    intro b hb
    rw [List.eq_of_mem_replicate hb]
    rfl
  unfold newErr
  rw [if_neg (by rw [h1]; decide), if_neg (by rw [fbs_len]; omega), if_pos h2]
theorem fbs_ok {n k se : Nat} (hn : n ≤ 4096) (hk : k ≤ n) (hs : se < 256) : (⟨fbs n, k, true, se, none⟩ : TP).ok :=
  ⟨by rw [fbs_len]; exact hk, by rw [fbs_len]; exact hn, fun b hb => by rw [List.eq_of_mem_replicate hb]; decide, hs, fun a o b e => by cases e⟩
theorem fbs_fit (n : Nat) : ∀ b ∈ fbs n, b.data.length ≤ 1073741824 := fun b hb => by rw [List.eq_of_mem_replicate hb]; decide
/-- The first k of n blocks are marks, the others are empty. -/
def mbs (n k : Nat) : List Blk := List.replicate k mkB ++ List.replicate (n - k) zB
theorem mbs_zero (n : Nat) : mbs n 0 = List.replicate n zB := by simp [mbs]
theorem mbs_full (n : Nat) : mbs n n = fbs n := by simp [mbs, fbs]
theorem mbs_len (n k : Nat) (h : k ≤ n) : (mbs n k).length = n := by simp [mbs]; omega
theorem mbs_get (n k : Nat) (h : k < n) : (mbs n k)[k]? = some zB := by
  unfold mbs
  rw [List.getElem?_append_right (by simp)]
  simp [List.getElem?_replicate]
  omega
section
variable {W w : World} {F : List SA}
theorem made_S {g n : Nat} (S : SL W (rowS 25 3 (.slice (some ⟨g, 0, none⟩) n n) n (madeCells (Value.agg #[.bool false, .slice none 0 0, .bool false]).cells (n * 3)).toList :: F) w) : SL W (blksS (.slice (some ⟨g, 0, none⟩) n n) (mbs n 0) :: F) w := by
  rw [made_blks] at S
  rw [mbs_zero]
  exact blk_close (ps := List.replicate n ((.slice none 0 0, zB) : BV)) (by rw [List.map_replicate]) (by rw [List.length_replicate]) (nils (S.head rowT_of) n).s1
set_option maxRecDepth 100000 in
set_option maxHeartbeats 16000000 in
theorem walk_tapeFull (W : World) (mark : Bool) (x : UInt8) :
    Calls Try.prog 3 #[.bool mark, .int .u8 (x.toNat : Int)] W fun e w' => e = .returned (.bool true) ∧ Below W.heap.size W w' := by
  have HW := Lib.hid works_any
  have HNW : Hid (∀ (g : Nat) (w2 : World), SL W [blksS (.slice (some ⟨g, 0, none⟩) 4096 4096) (fbs 4096)] w2 → Calls Try.prog 10 #[.string ⟨#[48]⟩, .slice (some ⟨g, 0, none⟩) 4096 4096] w2 fun e w' => ∃ tb, e = .returned (.tuple #[.pointer (some ⟨tb, 0, none⟩), .int .i64 0]) ∧ SL W (tapeS tb nm0 ⟨fbs 4096, 0, true, 0, none⟩ :: [blksS (.slice (some ⟨g, 0, none⟩) 4096 4096) (fbs 4096)]) w') := Lib.hid (fun g w2 S2 => by
    have h := new_eq nm0 (some ⟨g, 0, none⟩) (fbs 4096) 4096 (full_new _ (Nat.le_refl _)) S2 BlksRd.head (by decide) (by rw [fbs_len]; unfold maxLen; omega) (fbs_fit _)
    rw [fbs_len] at h
    exact h)
  have HFF : Hid (∀ (k tb : Nat) (F : List SA) (w2 : World), k < 4096 → SL W (tapeS tb nm0 ⟨fbs 4096, k, true, 0, none⟩ :: F) w2 → Calls Try.prog 11 #[.pointer (some ⟨tb, 0, none⟩), .int .i64 63, .slice none 0 0] w2 fun e w' => RetS W (tapeS tb nm0 ⟨fbs 4096, k + 1, true, 0, none⟩ :: F) ([], 13, 0) e w') := Lib.hid (fun k tb F w2 hk S2 => do_eq 63 none [] 0 (ff_do 4096 k hk) (by kernel_rfl) (fbs_ok (Nat.le_refl _) (by omega) (by decide)) S2 Rd.nil_ (by decide))
  have HD1 : Hid (∀ (tb : Nat) (A : Option Addr) (F : List SA) (w2 : World), SL W (tapeS tb nm0 ⟨fbs 4096, 4096, true, 0, none⟩ :: rowS 5 1 (.slice A 1 1) 1 [.int .u8 (x.toNat : Int)] :: F) w2 → Calls Try.prog 11 #[.pointer (some ⟨tb, 0, none⟩), .int .i64 (opB mark), .slice A 1 1] w2 fun e w' => RetS W (tapeS tb nm0 ⟨fbs 4096, 4096, true, 1, none⟩ :: rowS 5 1 (.slice A 1 1) 1 [.int .u8 (x.toNat : Int)] :: F) ([], 14, 1) e w') := Lib.hid (fun tb A F w2 S2 => do_eq (opB mark) A [x] 1 (full_do _ mark x) (by kernel_rfl) (fbs_ok (Nat.le_refl _) (Nat.le_refl _) (by decide)) S2 Rd.head (by simp))
  have HD2 : Hid (∀ (tb : Nat) (F : List SA) (w2 : World), SL W (tapeS tb nm0 ⟨fbs 4096, 4096, true, 1, none⟩ :: F) w2 → Calls Try.prog 11 #[.pointer (some ⟨tb, 0, none⟩), .int .i64 47, .slice none 0 0] w2 fun e w' => RetS W (tapeS tb nm0 ⟨fbs 4096, 4095, true, 1, none⟩ :: F) ([], 13, 0) e w') := Lib.hid (fun tb F w2 S2 => do_eq 47 none [] 0 (back_do 4095) (by kernel_rfl) (fbs_ok (Nat.le_refl _) (Nat.le_refl _) (by decide)) S2 Rd.nil_ (by decide))
  obtain ⟨la, hla⟩ := last_do 4095 (by decide) mark x
  have HD3 : Hid (∀ (tb : Nat) (A : Option Addr) (F : List SA) (w2 : World), SL W (tapeS tb nm0 ⟨fbs 4096, 4095, true, 1, none⟩ :: rowS 5 1 (.slice A 1 1) 1 [.int .u8 (x.toNat : Int)] :: F) w2 → Calls Try.prog 11 #[.pointer (some ⟨tb, 0, none⟩), .int .i64 (opB mark), .slice A 1 1] w2 fun e w' => RetS W (tapeS tb nm0 ⟨fbs 4095 ++ [newB mark x], 4096, true, 1, la⟩ :: rowS 5 1 (.slice A 1 1) 1 [.int .u8 (x.toNat : Int)] :: F) ([], 12, 0) e w') := Lib.hid (fun tb A F w2 S2 => do_eq (opB mark) A [x] 1 hla (by kernel_rfl) (fbs_ok (Nat.le_refl _) (by decide) (by decide)) S2 Rd.head (by simp))
  have hlen : (fbs 4095 ++ [newB mark x]).length = 4096 := by rw [List.length_append, fbs_len]; rfl
  have hget : (fbs 4095 ++ [newB mark x])[4095]? = some (newB mark x) := by
    rw [List.getElem?_append_right (by rw [fbs_len]; exact Nat.le_refl _), fbs_len]; rfl
  have HBB : Hid (∀ (tb : Nat) (F : List SA) (w2 : World), SL W (tapeS tb nm0 ⟨fbs 4095 ++ [newB mark x], 4096, true, 1, la⟩ :: F) w2 → Calls Try.prog 12 #[.pointer (some ⟨tb, 0, none⟩)] w2 fun e w' => ∃ (g c : Nat), e = .returned (.slice (some ⟨g, 0, none⟩) 4096 c) ∧ (w'.cell? ⟨g, 12285, none⟩ = some (.bool mark)) ∧ SL W (blksS (.slice (some ⟨g, 0, none⟩) 4096 c) (fbs 4095 ++ [newB mark x]) :: F) w') := Lib.hid (fun tb F w2 S2 => (blocks_any S2 ⟨by rw [hlen]; omega, fun b hb => by
      simp only [List.mem_append, List.mem_singleton] at hb
      rcases hb with hb | rfl
      · exact fbs_fit _ b hb
      · cases mark <;> simp [newB]⟩).mono fun e w' h => by
    obtain ⟨v, rfl, h⟩ := h
    obtain ⟨A, c, rfl, _, _⟩ := blksS_slice h
    obtain ⟨g, ps, A4, c4, rfl, hps, hpp, S0⟩ := blk_open h hget
    have k0 := (blk_cells S0 hpp).1
    have hm : (newB mark x).mark = mark := by cases mark <;> rfl
    rw [hm] at k0
    dsimp only at h ⊢
    rw [hlen] at h ⊢
    exact ⟨g, c, rfl, k0, SL.drop h.s1⟩)
  clear hla hlen hget
  have ho1 : opB false = 1 := rfl
  have ho2 : opB true = 31 := rfl
  cases mark
  all_goals
    first | rw [ho1] at HD1 HD3 | rw [ho2] at HD1 HD3
    clear ho1 ho2
    go_enter Try.func3, Try.ntmps3
    go_wp2_with (refine wpList_makeS rfl _ _ _ rfl blkElem .i64 .i64 _ _ 4096 rfl rfl rfl rfl (by omega) (by unfold maxLen; omega) (SL.start W) ?_; intro g w1 S1; have H1 := Lib.hid (made_S S1); clear S1)
    go_loopw [6] (fun i wr => ∃ k : Nat, k ≤ 4096 ∧ i = .int .i64 k ∧ SL W [blksS (.slice (some ⟨g, 0, none⟩) 4096 4096) (mbs 4096 k)] wr) (fun i _ => 4096 - (intOf i).toNat)
    case atStart => exact ⟨0, Nat.zero_le _, rfl, H1.out⟩
    case round =>
      obtain ⟨k, hk, rfl, S1⟩ := hrel
      by_cases hlt : k < 4096
      · obtain ⟨q0, q1, S2⟩ := setmark S1 (mbs_len 4096 k hk).symm (mbs_get 4096 k hlt) true
        have e1 : (mbs 4096 k).modify k (fun b => { b with mark := true }) = mbs 4096 (k + 1) := marks_next 4096 k hlt
        rw [e1] at S2
        have H2 := Lib.hid S2
        clear S1 S2 H1 e1
        go_wp2
        go_roundw
        case rel => exact ⟨k + 1, by omega, by go_num, H2.out⟩
        case measure => simp [intOf]; omega
      · obtain rfl : k = 4096 := by omega
        rw [mbs_full] at S1
        have H2 := Lib.hid S1
        clear S1 H1
        go_wp2_with ((with_reducible refine (HNW.out _ _ H2.out).mono ?_); rintro e w3 ⟨tb, rfl, S3⟩; have H3 := Lib.hid S3; clear S3 H2)
        go_loopw [10] (fun i wr => ∃ k : Nat, k ≤ 4096 ∧ i = .int .i64 k ∧ SL W [tapeS tb nm0 ⟨fbs 4096, k, true, 0, none⟩] wr) (fun i _ => 4096 - (intOf i).toNat)
        case atStart => exact ⟨0, Nat.zero_le _, rfl, H3.out.only⟩
        case round =>
          obtain ⟨k, hk, rfl, S4⟩ := hrel
          have H4 := Lib.hid S4
          clear S4 H3
          by_cases hlt : k < 4096
          · go_wp2_with ((with_reducible refine (HFF.out _ _ _ _ hlt H4.out).mono ?_); rintro e w5 ⟨A5, c5, rfl, S5⟩; have H5 := Lib.hid (S5.drop.alloc (.cells #[.slice A5 0 c5, .int .i64 13, .int .i64 0] 31)).drop; clear S5)
            go_roundw
            case rel => exact ⟨k + 1, by omega, by go_num, H5.out⟩
            case measure => simp [intOf]; omega
          · obtain rfl : k = 4096 := by omega
            go_wp2_with (first
              | ((with_reducible refine (HW.out _).mono ?_); rintro e w9 ⟨rfl, b9⟩; have H9 := Lib.hid (H8.out.grow b9))
              | ((with_reducible refine (HBB.out _ _ _ (SL.s1 (SL.allocC H7.out #[.slice A7 0 c7, .int .i64 12, .int .i64 0] 31))).mono ?_); rintro e w8 ⟨g8, c8, rfl, k8, S8⟩; have H8 := Lib.hid S8; clear S8 H7; obtain ⟨f1, f2, f3⟩ := H8.out.s1.look; obtain ⟨g1, g2, g3⟩ := H8.out.s3.look; obtain ⟨h1, h2, h3⟩ := H8.out.s4.look)
              | ((with_reducible refine (HD3.out _ _ _ _ H67.out).mono ?_); rintro e w7 ⟨A7, c7, rfl, S7⟩; dsimp only [List.length_nil] at S7 ⊢; have H7 := Lib.hid S7.drop; clear S7 H67)
              | ((with_reducible refine (HD2.out _ _ _ (SL.s1 (SL.allocC H5.out #[.slice A5 0 c5, .int .i64 14, .int .i64 1] 31))).mono ?_); rintro e w6 ⟨A6, c6, rfl, S6⟩; dsimp only [List.length_nil] at S6 ⊢; have h67 := SL.s1 (SL.lit (SL.s1 (SL.allocC S6.drop #[.slice A6 0 c6, .int .i64 13, .int .i64 0] 31)) #[.int .u8 (x.toNat : Int)] 5 1 1 rfl (by decide)); rw [World.size_alloc] at h67; have H67 := Lib.hid h67; clear S6 H5 h67)
              | ((with_reducible refine (HD1.out _ _ _ _ (SL.s1 (SL.lit H4.out #[.int .u8 (x.toNat : Int)] 5 1 1 rfl (by decide)))).mono ?_); rintro e w5 ⟨A5, c5, rfl, S5⟩; dsimp only [List.length_nil] at S5 ⊢; have H5 := Lib.hid S5.drop; clear S5 H4))
            go_ret
            exact ⟨rfl, H9.out.below⟩
end
end Go.Proofs.Ytbbokikjpabfkaa
