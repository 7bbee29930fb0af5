/- Fits of the reference. -/
import Derived.Test.YtelfihgkbbaifaaFits
import Derived.Test.YtelfihgkbbaifaaTwo
namespace Go.Proofs.Ytelfihgkbbaifaa
open Go.RowKit
section
variable {W w : World} {F : List SA}
theorem Fit.left {rs : List Rec} {x : Rec} (h : Fit (rs ++ [x])) : Fit rs := ⟨by have := h.1; simp at this; omega, fun y hy => h.2 y (by simp [hy])⟩
/-- A record appended whose key and data lie anywhere. -/
theorem recs_push {A A' : Option Addr} {c' : Nat} {rs : List Rec} {x : Rec} {ps : List RV} {Ak Ad : Option Addr} {ck cd : Nat} (S : SL W (rowS 25 4 (.slice A' (rs.length + 1) c') (rs.length + 1) (ps.flatMap recCells ++ [.int .i64 x.r, .slice Ak x.key.length ck, .slice Ad x.data.length cd, .bool x.bad]) :: F) w)
    (hp : ps.map Prod.snd = rs) (hv : ∀ p ∈ ps, RecV w p) (hk : CardAt w Ak x.key ck) (hd : CardAt w Ad x.data cd) : RecsAt w A' (rs ++ [x]) := by
  have h := recs_at' (ps := ps ++ [((.slice Ak x.key.length ck, .slice Ad x.data.length cd), x)]) (by rw [flat_snoc]; exact S) (fun p hp => by
    rcases List.mem_append.1 hp with h | h
    · exact hv p h
    · obtain rfl := List.mem_singleton.1 h
      exact ⟨Ak, ck, Ad, cd, rfl, hk, hd⟩)
  rw [List.map_append, hp] at h
  exact h
set_option maxRecDepth 100000 in
set_option maxHeartbeats 8000000 in
theorem rfits_any (A : Option Addr) (rs : List Rec) (c : Nat) (x : Rec) (Ak Ad : Option Addr) (ck cd : Nat) (w : World) (hr : RecsAt w A rs) (hf : Fit (rs ++ [x])) (hk : CardAt w Ak x.key ck) (hd : CardAt w Ad x.data cd) :
    Calls Try.prog 34 #[.slice A rs.length c, .agg #[.int .i64 x.r, .slice Ak x.key.length ck, .slice Ad x.data.length cd, .bool x.bad]] w fun e w' => e = .returned (.bool (validB (rs ++ [x]))) ∧ Below w.heap.size w w' := by
  have HF := Lib.hid hf
  have HR := Lib.hid hr
  have HC := Lib.hid (And.intro hk hd)
  have hfl : rs.length + 1 ≤ 1048576 := by have := hf.1; simpa using this
  clear hf hr hk hd
  go_enter Try.func34, Try.ntmps34
  go_upto_region 1 with fail
  refine name_world (P := Code.wp _ _ _ _) ?_
  intro wd hwd
  have H1 := Lib.hid (SL.cast hwd ((SL.start w).allocC #[.int .i64 x.r, .slice Ak x.key.length ck, .slice Ad x.data.length cd, .bool x.bad] 25))
  clear hwd
  generalize hxb : w.heap.size = xb at *
  have HXB := Lib.hid hxb
  clear hxb
  have HEND := Lib.hid (fun (w5 : World) (A5 : Option Addr) (c5 : Nat) (F5 : List SA) (ps : List RV) (S : SL w (rowS 25 4 (.slice A5 (rs.length + 1) c5) (rs.length + 1) (ps.flatMap recCells ++ [.int .i64 x.r, .slice Ak x.key.length ck, .slice Ad x.data.length cd, .bool x.bad]) :: F5) w5) (hp : ps.map Prod.snd = rs) (hv : ∀ p ∈ ps, RecV w5 p) => (by
    have h := rvalid_any A5 (rs ++ [x]) c5 w5 (recs_push (A := A) S hp hv (HC.out.1.grow S.1) (HC.out.2.grow S.1)) HF.out
    rw [List.length_append, List.length_singleton] at h
    exact h : Calls Try.prog 39 #[.slice A5 (rs.length + 1) c5] w5 fun e w' => e = .returned (.bool (validB (rs ++ [x]))) ∧ Below w5.heap.size w5 w'))
  generalize hres : validB (rs ++ [x]) = res at *
  have HRES := Lib.hid hres
  clear hres
  refine wp_region_two (SL w [cel xb #[.int .i64 x.r, .slice Ak x.key.length ck, .slice Ad x.data.length cd, .bool x.bad] 25]) [0] [2] 1 3 [4, 5, 6] (by kernel_rfl) (by kernel_rfl) H1.out.drew (by intro c a d v w h; cases d <;> exact h) ?_
  simp only [pick, List.filterMap_cons, List.filterMap_nil, List.getElem?_cons_zero, List.getElem?_cons_succ]
  (repeat (refine wpPure_step (fun K hK => ?_); go_simp; refine hK _ ?_; clear hK K)); refine wpPure_nil ?_
  (repeat (with_reducible refine wpLoads_step ?_; intro K hK; go_simp; first | (with_reducible refine hK _ ?_; clear hK K) | (rw [if_neg (by decide)]; with_reducible refine hK _ ?_; clear hK K) | (refine ⟨_, fun wx hx => (by obtain ⟨f0, f1, f2⟩ := hx.look; go_simp; with_reducible rfl), hK _ ?_⟩; clear hK K) | (refine ⟨_, fun _ _ => rfl, hK _ ?_⟩; clear hK K))); with_reducible refine wpLoads_nil ?_
  have H2 := Lib.hid H1.out.drew
  have HRR := Lib.hid (fun (R : List SA) => (fun w' S => HR.out.grow S.1 : RecsRd w R A rs))
  constructor
  · (with_reducible refine wpKeep_step ?_; intro K hK; go_simp)
    refine (rcopy_any A rs c H2.out (HRR.out _) (Fit.left HF.out)).mono ?_
    rintro e w3 ⟨A3, c3, rfl, S3⟩
    have H3 := Lib.hid S3
    refine hK _ _ S3.drop ?_
    clear hK K S3 H2 H1
    (with_reducible refine wpKeep_step ?_; intro K hK; go_simp)
    refine hK _ _ (H3.out.drop.allocC _ _).drop ?_
    clear hK K
    refine wpKeep_nil ?_
    obtain ⟨ps, hps, S4⟩ := recsS_open H3.out
    have hpl : ps.length = rs.length := by rw [← hps, List.length_map]
    rw [hpl] at S4
    have H4 := Lib.hid S4
    have HP := Lib.hid hps
    clear S4 hps hpl H3
    refine wpList_pushS rfl _ _ _ rfl recElem w3 [.int .i64 x.r, .slice Ak x.key.length ck, .slice Ad x.data.length cd, .bool x.bad] 1 rfl rfl (by simp [Value.oneCell']) _ rs.length _ rfl rfl H4.out (by unfold maxLen; omega) (by omega) ?_
    intro A5 c5 w5 S5
    have H5 := Lib.hid (HEND.out w5 A5 c5 _ ps S5 HP.out (recO_v S5.s1))
    have B5 := Lib.hid S5.1
    clear S5
    go_wp2_with fail
    refine H5.out.mono ?_
    rintro e w6 ⟨rfl, b6⟩
    have B6 := Lib.hid (B5.out.trans (b6.mono B5.out.size))
    clear b6
    go_wp2
    go_ret
    exact ⟨by rw [HRES.out]; rfl, B6.out⟩
  · (with_reducible refine wpKeep_step ?_; intro K hK; go_simp)
    refine hK _ _ (H2.out.allocC _ _).drop ?_
    clear hK K
    have H3 := Lib.hid (H1.out.lit #[.int .i64 x.r, .slice Ak x.key.length ck, .slice Ad x.data.length cd, .bool x.bad] 25 4 1 rfl (by decide)).drew
    generalize wd.heap.size = lb at *
    generalize (wd.alloc (.cells #[.int .i64 x.r, .slice Ak x.key.length ck, .slice Ad x.data.length cd, .bool x.bad] 25)).drew = w3 at *
    clear H2 H1
    (with_reducible refine wpKeep_step ?_; intro K hK; go_simp)
    refine (rcopy_any A rs c H3.out (HRR.out _) (Fit.left HF.out)).mono ?_
    rintro e w4 ⟨A3, c3, rfl, S4⟩
    refine hK _ _ S4.drop.drop ?_
    clear hK K H3
    refine wpKeep_nil ?_
    obtain ⟨ps, hps, S5⟩ := recsS_open S4
    have hpl : ps.length = rs.length := by rw [← hps, List.length_map]
    rw [hpl] at S5
    have H4 := Lib.hid S5
    have HP := Lib.hid hps
    clear S4 S5 hps hpl
    refine wpList_appS rfl _ _ _ rfl recElem _ rs.length _ rfl H4.out w4.heap.size (some ⟨lb, 0, none⟩) 1 1 [.int .i64 x.r, .slice Ak x.key.length ck, .slice Ad x.data.length cd, .bool x.bad] rfl H4.out.s2.at_ rfl (by simp [Value.oneCell']) (by unfold maxLen; omega) (by omega) ?_
    intro A5 c5 w5 S5
    have H5 := Lib.hid (HEND.out w5 A5 c5 _ ps S5 HP.out (recO_v S5.s1))
    have B5 := Lib.hid S5.1
    clear S5
    go_wp2_with fail
    refine H5.out.mono ?_
    rintro e w6 ⟨rfl, b6⟩
    have B6 := Lib.hid (B5.out.trans (b6.mono B5.out.size))
    clear b6
    go_wp2
    go_ret
    exact ⟨by rw [HRES.out]; rfl, B6.out⟩
end
end Go.Proofs.Ytelfihgkbbaifaa
