/- (*device).command over any device, with assertions that lie apart. -/
import Derived.Test.YtlbbmfmkhmmikaaGreatUPun
namespace Go.Proofs.YtlbbmfmkhmmikaaGreat.U
open Go.RowKit

/-- A device at block pb, whose first cell is the sense byte. -/
def DevS (pb : Nat) (I : Nat → SA) : Prop :=
  ∀ se h, I se h → ∃ x : Array Value × TypeId × SA, (x.1[0]? = some (.int .i64 (se : Int)) ∧ ∀ (se' : Nat) h', star [cel pb (x.1.setIfInBounds 0 (.int .i64 (se' : Int))) x.2.1, x.2.2] h' → I se' h') ∧ star [cel pb x.1 x.2.1, x.2.2] h
theorem set_same' {cs : Array Value} {v : Value} (h : cs[0]? = some v) : cs.setIfInBounds 0 v = cs := by
  obtain ⟨hl, hv⟩ := Array.getElem?_eq_some_iff.1 h
  subst hv
  simp [Array.setIfInBounds, hl]
section
variable {W w : World} {F : List SA}
theorem DevS.open_ {pb se : Nat} {I : Nat → SA} (D : DevS pb I) (S : SL W (I se :: F) w) : ∃ cs t J, cs[0]? = some (.int .i64 (se : Int)) ∧ SL W (cel pb cs t :: J :: F) w ∧ ∀ (se' : Nat) W' F' w', SL W' (cel pb (cs.setIfInBounds 0 (.int .i64 (se' : Int))) t :: J :: F') w' → SL W' (I se' :: F') w' := by
  obtain ⟨⟨cs, t, J⟩, ⟨h0, h1⟩, S'⟩ := S.unpack (K := fun x : Array Value × TypeId × SA => [cel pb x.1 x.2.1, x.2.2]) (D se)
  exact ⟨cs, t, J, h0, S', fun se' W' F' w' S => SL.pack (L := [_, _]) S (h1 se')⟩

/-- How a call of a bound method goes on. -/
def Enters (own : Nat) (args : Array Value) : Prop := ∀ w : World, (callFunc own args).run Tryz.prog w = .ok (.enter own args) w

set_option maxRecDepth 100000 in
set_option maxHeartbeats 2000000 in
theorem commandS_3 (pb se : Nat) (I : Nat → SA) (v f : Value) (S : SL W (I se :: F) w) :
    Calls Tryz.prog 197 #[.pointer (some ⟨pb, 0, none⟩), .int .i64 3, v, f] w fun e w' => RetS W (I se :: F) [] 12 0 e w' := by
  have HS := Lib.hid S
  clear S
  go_enter Tryz.func197, Tryz.ntmps197
  go_wp2_with fail
  refine (normal_any _ _ _ _ rfl _).mono ?_
  rintro e w1 ⟨rfl, b1⟩
  have H1 := Lib.hid ((HS.out.allocC #[.slice none 0 0, .int .i64 0, .int .i64 0] 30).grow b1)
  obtain ⟨L1, F1, _⟩ := H1.out.look
  clear b1
  go_wp2
  exact bodyPost_ret (v := .agg #[.slice none 0 0, .int .i64 12, .int .i64 0]) (by simp [results, Tryz.results197, go_sem, L1]) rfl (RetS.of (((H1.out.set rfl).set rfl).set rfl).drop)

set_option maxRecDepth 100000 in
set_option maxHeartbeats 2000000 in
theorem commandS_4 (pb se : Nat) (I : Nat → SA) (D : DevS pb I) (hse : se < 256) (v f : Value) (S : SL W (I se :: F) w) :
    Calls Tryz.prog 197 #[.pointer (some ⟨pb, 0, none⟩), .int .i64 4, v, f] w fun e w' => RetS W (I se :: F) [UInt8.ofNat se] 12 0 e w' := by
  obtain ⟨cs, t, J, hc0, S0, hcl⟩ := D.open_ S
  obtain ⟨L', _, z⟩ := S0.look
  have L : w.cell? ⟨pb, 0, none⟩ = some (.int .i64 (se : Int)) := (L' 0).trans hc0
  have hu : (UInt8.ofNat se).toNat = se := by rw [UInt8.toNat_ofNat']; omega
  have hc : Lib.byteCells [UInt8.ofNat se] = [Value.int .u8 (se : Int)] := by simp only [Lib.byteCells, List.map_cons, List.map_nil]; rw [hu]
  have HC := Lib.hid hc
  have HS := Lib.hid S
  clear S S0 L' hc0 D hu hc hcl
  go_enter Tryz.func197, Tryz.ntmps197
  go_wp2_with fail
  have h0 := (HS.out.allocC #[.slice none 0 0, .int .i64 0, .int .i64 0] 30).lit #[Value.int .u8 (se : Int)] 5 1 1 rfl (by decide)
  rw [World.size_alloc] at h0
  have H0 := Lib.hid h0
  clear h0
  refine (normal_any _ _ _ _ rfl _).mono ?_
  rintro e w1 ⟨rfl, b1⟩
  have H1 := Lib.hid (H0.out.grow b1)
  obtain ⟨L1, F1, z1⟩ := H1.out.s1.look
  clear b1 H0
  go_wp2
  refine bodyPost_ret (v := .agg #[.slice (some ⟨w.heap.size + 1, 0, none⟩) 1 1, .int .i64 12, .int .i64 0]) (by simp [results, Tryz.results197, go_sem, L1]) rfl ⟨_, _, rfl, ?_⟩
  rw [HC.out]
  exact (((H1.out.s1.set rfl).set rfl).set rfl).drop

set_option maxRecDepth 100000 in
set_option maxHeartbeats 2000000 in
theorem commandS_own (pb se : Nat) (I : Nat → SA) (D : DevS pb I) (own : Nat) (op : Int) (v : Value) (rd : List UInt8) (st sn : Int) (h3 : op ≠ 3) (h4 : op ≠ 4) (hsn : sn = 0 ∨ sn = 64 ∨ sn = 128)
    (hc : Enters own #[.pointer (some ⟨pb, 0, none⟩), .int .i64 op, v]) (w0 : World) (L : List SA) (S : SL W L w0)
    (ho : ∀ R w, SL W (R :: L) w → Calls Tryz.prog own #[.pointer (some ⟨pb, 0, none⟩), .int .i64 op, v] w fun e w' => RetS W (I se :: R :: F) rd st sn e w') :
    Calls Tryz.prog 197 #[.pointer (some ⟨pb, 0, none⟩), .int .i64 op, v, .func (.func own) #[.pointer (some ⟨pb, 0, none⟩)] #[]] w0 fun e w' =>
      RetS W (I (if sn = 0 then se else sn.toNat) :: F) rd st sn e w' := by
  have t3 : (op == 3) = false := by rw [beq_eq_false_iff_ne]; exact h3
  have t4 : (op == 4) = false := by rw [beq_eq_false_iff_ne]; exact h4
  have HO := Lib.hid ho
  have HS := Lib.hid S
  unfold Enters at hc
  clear h3 h4 ho S
  go_enter Tryz.func197, Tryz.ntmps197
  go_wp2_with fail
  refine (HO.out _ _ (HS.out.allocC #[.slice none 0 0, .int .i64 0, .int .i64 0] 30)).mono ?_
  rintro e w1 ⟨A1, c1, rfl, S1⟩
  obtain ⟨cs, t, J, hc0, S2, hcl⟩ := D.open_ S1.s1
  obtain ⟨L2', K2, z2⟩ := S2.look
  have L2 : w1.cell? ⟨pb, 0, none⟩ = some (.int .i64 (se : Int)) := (L2' 0).trans hc0
  have S3 := S2.s3
  obtain ⟨L1, K1, z1⟩ := S3.look
  have hne := S3.cne
  have hne' : pb ≠ w0.heap.size := fun e => hne e.symm
  have HCL := Lib.hid hcl
  have H3 := Lib.hid S3
  have HC0 := Lib.hid hc0
  clear S1 S2 S3 L2' hc0 hcl D HO HS
  rcases hsn with rfl | rfl | rfl
  · go_wp2
    refine name_world (P := bodyPost _ _ _ _ _) ?_
    intro wf hwf
    have SF := SL.cast hwf ((((H3.out.set rfl).set rfl).set rfl).allocC _ _)
    clear hwf
    obtain ⟨Lf, _, _⟩ := SF.drop.look
    refine bodyPost_ret (v := .agg #[.slice A1 rd.length c1, .int .i64 st, .int .i64 0]) (by simp [results, Tryz.results197, go_sem, Lf]) rfl ⟨_, _, rfl, ?_⟩
    exact (HCL.out se _ _ _ (by rw [set_same' HC0.out]; exact SF.drop.drop)).s1
  · go_wp2
    refine name_world (P := bodyPost _ _ _ _ _) ?_
    intro wf hwf
    have SF := SL.cast hwf (((((H3.out.s1.set (off := 0) (v := .int .i64 (64 : Nat)) rfl).s1.set rfl).set rfl).set rfl).allocC _ _)
    clear hwf
    obtain ⟨Lf, _, _⟩ := SF.drop.look
    refine bodyPost_ret (v := .agg #[.slice A1 rd.length c1, .int .i64 st, .int .i64 64]) (by simp [results, Tryz.results197, go_sem, Lf]) rfl ⟨_, _, rfl, ?_⟩
    exact (HCL.out 64 _ _ _ (SF.drop.drop)).s1
  · go_wp2
    refine name_world (P := bodyPost _ _ _ _ _) ?_
    intro wf hwf
    have SF := SL.cast hwf (((((H3.out.s1.set (off := 0) (v := .int .i64 (128 : Nat)) rfl).s1.set rfl).set rfl).set rfl).allocC _ _)
    clear hwf
    obtain ⟨Lf, _, _⟩ := SF.drop.look
    refine bodyPost_ret (v := .agg #[.slice A1 rd.length c1, .int .i64 st, .int .i64 128]) (by simp [results, Tryz.results197, go_sem, Lf]) rfl ⟨_, _, rfl, ?_⟩
    exact (HCL.out 128 _ _ _ (SF.drop.drop)).s1
end
end Go.Proofs.YtlbbmfmkhmmikaaGreat.U
