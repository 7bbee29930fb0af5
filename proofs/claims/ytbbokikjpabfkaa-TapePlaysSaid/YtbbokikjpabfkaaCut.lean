/- cut and write. -/
import Derived.Test.YtbbokikjpabfkaaPass
namespace Go.Proofs.Ytbbokikjpabfkaa
open Go.RowKit

theorem BlksAt.slice {w : World} {A : Option Addr} {bs : List Blk} {c : Nat} (h : BlksAt w A bs) (k : Nat) (hc : bs.length ≤ c) : BlksAt w (if c = k then A else A.map fun x => x.add (k * 3)) (bs.drop k) := by
  by_cases e : c = k
  · rw [List.drop_eq_nil_of_le (by omega)]
    intro i b hb
    simp at hb
  · rw [if_neg e]; exact h.drop k
theorem Fit.drop {bs : List Blk} (h : Fit bs) (k : Nat) : Fit (bs.drop k) := ⟨by have := h.1; rw [List.length_drop]; omega, fun b hb => h.2 b (List.mem_of_mem_drop hb)⟩
theorem take_blkCells (ps : List BV) (k : Nat) : (ps.flatMap blkCells).take (k * 3) = (ps.take k).flatMap blkCells := by
  induction ps generalizing k with
  | nil => simp
  | cons p ps ih =>
    cases k with
    | zero => simp
    | succ k =>
      simp only [List.flatMap_cons, List.take_succ_cons]
      rw [show (k + 1) * 3 = (blkCells p).length + k * 3 by simp [blkCells]; omega, List.take_append, List.take_of_length_le (by omega), Nat.add_sub_cancel_left, ih]
theorem blksS_cut {W w : World} {F : List SA} {A : Option Addr} {c k : Nat} {bs : List Blk} (S : SL W (blksS (.slice A bs.length c) bs :: F) w) (hk : k ≤ bs.length) : SL W (blksS (.slice A k k) (bs.take k) :: F) w := by
  obtain ⟨ps, rfl, S1⟩ := blksS_open S
  rw [List.length_map] at hk S1
  have S2 := (S1.cutT hk).s1
  rw [take_blkCells] at S2
  have e : (if A = none then 0 else k) = k := by
    by_cases h : A = none
    · rw [if_pos h]
      rcases S1.rowTo with ⟨_, h1, _⟩ | ⟨g, cap, cur, h1, _⟩
      · omega
      · rw [h] at h1; cases h1
    · rw [if_neg h]
  rw [e] at S2
  have S3 := (S2.head (b := star ((ps.take k).map datS)) fun h s => by
    rw [← List.take_append_drop k ps, List.map_append] at s
    obtain ⟨h1, h2, p, _, _, l1, _⟩ := star_append s
    exact star_le l1 p).s1
  have hl : (ps.take k).length = k := by rw [List.length_take]; omega
  have h := blksS_close (v := .slice A k k) (ps := ps.take k) (by rw [hl]; exact S3)
  rw [← List.map_take]
  exact h
section
variable {W w w' : World} {F : List SA} {tb : Nat} {name : ByteArray} {s : TP}
set_option maxHeartbeats 4000000 in
theorem cut_any (block : Bool) (S : SL W (tapeS tb name s :: F) w) (hp : s.pos ≤ s.bs.length) (hf : Fit s.bs) :
    Calls Try.prog 42 #[.pointer (some ⟨tb, 0, none⟩), .bool block] w fun e w' => e = .returned (.tuple #[]) ∧ SL W (tapeS tb name (tpCut s block) :: F) w' := by
  obtain ⟨v, lp, S1⟩ := tapeS_open S
  obtain ⟨A, c, rfl, hc1, hc2⟩ := blksS_slice S1.s1
  obtain ⟨bs, pos, ld, se, la⟩ := s
  dsimp only at *
  have H1 := Lib.hid S1
  have HF := Lib.hid hf
  clear S S1 hf
  have hl1 : bs.length ≤ 1048576 := HF.out.1
  go_enter Try.func42, Try.ntmps42
  go_wp2_with fail
  refine wp_region_order (SL W (cel tb #[.string name, .slice A bs.length c, .int .i64 (pos : Int), .bool ld, .int .u8 (se : Int), .pointer lp] 57 :: blksS (.slice A bs.length c) bs :: lastS lp la :: F)) [] [0, 1, 2, 3, 4, 5, 6, 7, 8, 9, 10, 11, 12, 13, 15] [] [14, 16, 17, 18, 19] [20] (by kernel_rfl) (by kernel_rfl) H1.out.drew (by intro c a d v w h; cases d <;> exact h) ?_
  simp only [pick, List.filterMap_cons, List.filterMap_nil, List.getElem?_cons_zero, List.getElem?_cons_succ]
  (repeat (refine wpPure_step (fun K hK => ?_); go_simp; refine hK _ ?_; clear hK K)); refine wpPure_nil ?_
  repeat (refine wpLoads_step (fun K hK => ?_); go_simp; first | (refine hK _ ?_; clear hK K) | (refine ⟨_, fun wx S => (by obtain ⟨f3, f4, f5⟩ := S.look; go_simp; rfl), hK _ ?_⟩; clear hK K))
  refine wpLoads_nil (wpQuiet_nil ?_)
  intro wq hwq
  have H2 := Lib.hid hwq
  clear hwq H1
  (refine wpKeep_step ?_; intro K hK; go_simp)
  have hd : (bs.drop pos).length = bs.length - pos := List.length_drop
  rw [← hd]
  refine (bclone_any _ (bs.drop pos) (c - pos) H2.out (fun w2 S2 => (blksS_at S2.s1).slice pos hc1) (HF.out.drop pos)).mono ?_
  rintro e w3 ⟨v3, rfl, S3⟩
  obtain ⟨A3, c3, rfl, _, _⟩ := blksS_slice S3
  have H3 := Lib.hid S3
  clear S3 H2
  refine hK _ _ H3.out.drop ?_
  clear hK K
  rw [hd]
  generalize (if c = pos then A else Option.map (fun x => x.add (pos * 3)) A) = A0
  (refine wpKeep_step ?_; intro K hK; go_simp)
  refine hK _ _ H3.out.drop ?_
  clear hK K
  (refine wpKeep_step ?_; intro K hK; go_simp)
  refine hK _ _ (H3.out.drop.alloc _).drop ?_
  clear hK K
  (refine wpKeep_step ?_; intro K hK; go_simp)
  refine hK _ _ (H3.out.drop.alloc _).drop ?_
  clear hK K
  (refine wpKeep_step ?_; intro K hK; go_simp)
  refine hK _ _ (H3.out.drop.alloc _).drop ?_
  clear hK K
  refine wpKeep_nil ?_
  have H4 : Hid (SL W (cel w3.heap.size #[.int .i64 (pos : Int), .slice A3 (bs.length - pos) c3, .bool block] 65 :: cel tb #[.string name, .slice A bs.length c, .int .i64 (pos : Int), .bool ld, .int .u8 (se : Int), .pointer (some ⟨w3.heap.size, 0, none⟩)] 57 :: blksS (.slice A3 (bs.length - pos) c3) (bs.drop pos) :: blksS (.slice A bs.length c) bs :: lastS lp la :: F)
    ((w3.setCell ⟨tb, 5, none⟩ (.pointer (some ⟨w3.heap.size, 0, none⟩))).alloc (.cells #[.int .i64 (pos : Int), .slice A3 (bs.length - pos) c3, .bool block] 65))) := Lib.hid (by
      have h := (SL.set (off := 5) (v := .pointer (some ⟨w3.heap.size, 0, none⟩)) (cs' := #[.string name, .slice A bs.length c, .int .i64 (pos : Int), .bool ld, .int .u8 (se : Int), .pointer (some ⟨w3.heap.size, 0, none⟩)]) H3.out.s1 rfl).allocC #[.int .i64 (pos : Int), .slice A3 (bs.length - pos) c3, .bool block] 65
      rw [World.size_setCell] at h
      rw [hd] at h
      exact h)
  obtain ⟨L, K, z⟩ := H3.out.s1.look
  go_wp2_with fail
  refine name_world (P := Code.wp _ _ _ _) ?_
  intro wd hwd
  rw [← hwd] at H4
  clear hwd L K z H3
  generalize w3.heap.size = lb at *
  obtain ⟨L, K, z⟩ := H4.out.s1.look
  go_big_region
  go_wp2
  refine bodyPost_end (v := .tuple #[]) (by simp [results, Try.results42, go_sem]) rfl ⟨rfl, ?_⟩
  have h := (SL.set (off := 1) (v := .slice A pos pos) (cs' := #[.string name, .slice A pos pos, .int .i64 (pos : Int), .bool ld, .int .u8 (se : Int), .pointer (some ⟨lb, 0, none⟩)]) H4.out.s1 rfl).drew.s4.drop.s3
  exact tapeS_close (s := tpCut ⟨bs, pos, ld, se, la⟩ block) (lastS_close ((blksS_cut h hp).s3.s3)).s1.s2
end
end Go.Proofs.Ytbbokikjpabfkaa
