/- cut and write of the reference. -/
import Derived.Test.YtbbokikjpabfkaaQNew
namespace Go.Proofs.Ytbbokikjpabfkaa
open Go.RowKit

/-- A check leaves its sense. -/
def snS (s : TP) (r : Rep) : TP := if r.2.1 = 14 then { s with sense := r.2.2 } else s
theorem BlksAt.take' {w : World} {A : Option Addr} {bs : List Blk} (h : BlksAt w A bs) (k : Nat) : BlksAt w A (bs.take k) := fun i b hb => h i b (by
  rw [List.getElem?_take] at hb
  split at hb
  · exact hb
  · cases hb)
section
variable {W w w' : World} {F : List SA} {qb : Nat} {nm : ByteArray} {s : TP}
set_option maxHeartbeats 8000000 in
theorem qcut_any (S : SL W (qS qb nm s :: F) w) (hp : s.pos ≤ s.bs.length) (hf : Fit s.bs) :
    Calls Try.prog 48 #[.pointer (some ⟨qb, 0, none⟩)] w fun e w' => e = .returned (.tuple #[]) ∧ SL W (qS qb nm (tpCut s false) :: F) w' := by
  obtain ⟨q, _, S1⟩ := qS_open S
  obtain ⟨qv, qvo, qwr, qoa, qobs⟩ := q
  dsimp only at S1
  obtain ⟨A, c, rfl, hc1, hc2⟩ := blksS_slice S1.s1
  obtain ⟨Ao, co, rfl, _, _⟩ := blksS_slice S1.s2
  obtain ⟨bs, pos, ld, se, la⟩ := s
  dsimp only [qcells] at *
  obtain ⟨L, K, z⟩ := S1.look
  have H1 := Lib.hid (SL.set (off := 6) (v := .bool false) (cs' := #[.string nm, .slice A bs.length c, .int .i64 (pos : Int), .bool ld, .int .i64 (se : Int), .bool true, .bool false, .slice Ao qobs.length co, .int .i64 qoa]) (SL.set (off := 5) (v := .bool true) (cs' := #[.string nm, .slice A bs.length c, .int .i64 (pos : Int), .bool ld, .int .i64 (se : Int), .bool true, .bool qwr, .slice Ao qobs.length co, .int .i64 qoa]) S1 rfl) rfl)
  have HF := Lib.hid hf
  have hl1 : bs.length ≤ 1048576 := hf.1
  clear S S1 hf
  go_enter Try.func48, Try.ntmps48
  go_wp2_with fail
  refine name_world (P := Code.wp _ _ _ _) ?_
  intro wd hwd
  rw [← hwd] at H1
  clear hwd L K z
  refine wp_region_order (SL W _) [0, 1, 2, 3, 4, 7, 8, 9] [5, 10] [] [6] [11, 12, 13, 14, 15, 16] (by kernel_rfl) (by kernel_rfl) H1.out.drew (by intro c a d v w h; cases d <;> exact h) ?_
  simp only [pick, List.filterMap_cons, List.filterMap_nil, List.getElem?_cons_zero, List.getElem?_cons_succ]
  (repeat (refine wpPure_step (fun K hK => ?_); go_simp; refine hK _ ?_; clear hK K)); refine wpPure_nil ?_
  (repeat (refine wpLoads_step (fun K hK => ?_); go_simp; first | (refine hK _ ?_; clear hK K) | (refine ⟨_, fun wx S => (by obtain ⟨f3, f4, f5⟩ := S.look; go_simp; rfl), hK _ ?_⟩; clear hK K)))
  refine wpLoads_nil (wpQuiet_nil ?_)
  intro wq hwq
  have H2 := Lib.hid hwq
  clear hwq H1
  (refine wpKeep_step ?_; intro K hK; go_simp)
  refine (rcopy_any A bs c H2.out (fun w2 S2 => blksS_at S2.s1) HF.out).mono ?_
  rintro e w3 ⟨v3, rfl, S3⟩
  obtain ⟨A3, c3, rfl, _, _⟩ := blksS_slice S3
  have H3 := Lib.hid S3
  clear S3 H2
  refine hK _ _ H3.out.drop ?_
  clear hK K
  refine wpKeep_nil ?_
  have H4 := Lib.hid (SL.set (off := 8) (v := .int .i64 (pos : Int)) (cs' := #[.string nm, .slice A bs.length c, .int .i64 (pos : Int), .bool ld, .int .i64 (se : Int), .bool true, .bool false, .slice A3 bs.length c3, .int .i64 (pos : Int)]) (SL.set (off := 7) (v := .slice A3 bs.length c3) (cs' := #[.string nm, .slice A bs.length c, .int .i64 (pos : Int), .bool ld, .int .i64 (se : Int), .bool true, .bool false, .slice A3 bs.length c3, .int .i64 qoa]) H3.out.s1 rfl) rfl)
  obtain ⟨L, K, z⟩ := H3.out.s1.look
  go_wp2_with fail
  refine name_world (P := Code.wp _ _ _ _) ?_
  intro we hwe
  rw [← hwe] at H4
  clear hwe L K z H3
  have hpc : pos ≤ c := by omega
  refine wp_region_order (SL W _) [] [0, 1, 2, 3, 4, 5, 6, 7, 8, 9] [] [10] [11, 12, 13] (by kernel_rfl) (by kernel_rfl) H4.out.drew (by intro c a d v w h; cases d <;> exact h) ?_
  simp only [pick, List.filterMap_cons, List.filterMap_nil, List.getElem?_cons_zero, List.getElem?_cons_succ]
  (repeat (refine wpPure_step (fun K hK => ?_); go_simp; refine hK _ ?_; clear hK K)); refine wpPure_nil ?_
  (repeat (refine wpLoads_step (fun K hK => ?_); go_simp; first | (refine hK _ ?_; clear hK K) | (refine ⟨_, fun wx S => (by obtain ⟨f3, f4, f5⟩ := S.look; go_simp; rfl), hK _ ?_⟩; clear hK K)))
  refine wpLoads_nil (wpQuiet_nil ?_)
  intro wr hwr
  have H5 := Lib.hid hwr
  clear hwr H4
  (refine wpKeep_step ?_; intro K hK; go_simp)
  have ht : (bs.take pos).length = pos := by rw [List.length_take]; omega
  have hcl := rcopy_any A (bs.take pos) c H5.out (fun w2 S2 => (blksS_at S2.s2).take' pos) ⟨by rw [ht]; omega, fun b hb => HF.out.2 b (List.mem_of_mem_take hb)⟩
  rw [ht] at hcl
  refine hcl.mono ?_
  rintro e w6 ⟨v6, rfl, S6⟩
  obtain ⟨A6, c6, rfl, _, _⟩ := blksS_slice S6
  rw [ht] at S6
  have H6 := Lib.hid S6
  clear S6 H5 hcl
  refine hK _ _ H6.out.drop ?_
  clear hK K
  rw [ht]
  refine wpKeep_nil ?_
  obtain ⟨L, K, z⟩ := H6.out.s1.look
  have H7 := Lib.hid (SL.set (off := 1) (v := .slice A6 pos c6) (cs' := #[.string nm, .slice A6 pos c6, .int .i64 (pos : Int), .bool ld, .int .i64 (se : Int), .bool true, .bool false, .slice A3 bs.length c3, .int .i64 (pos : Int)]) H6.out.s1 rfl)
  go_wp2
  refine bodyPost_end (v := .tuple #[]) (by simp [results, Try.results48, go_sem]) rfl ⟨rfl, ?_⟩
  -- [cel, blksS new, blksS copy, blksS elder, blksS elder's old]
  have h8 := H7.out
  refine qS_close (s := tpCut ⟨bs, pos, ld, se, la⟩ false) (q := ⟨.slice A6 pos c6, .slice A3 bs.length c3, false, (pos : Int), bs⟩) ?_ (h8.s3.drop.s3.drop)
  intro a old blk e
  simp only [tpCut, Option.some.injEq, Prod.mk.injEq] at e
  obtain ⟨rfl, rfl, rfl⟩ := e
  refine ⟨rfl, rfl, ?_⟩
  simp [tpCut, List.take_take]
end
end Go.Proofs.Ytbbokikjpabfkaa
