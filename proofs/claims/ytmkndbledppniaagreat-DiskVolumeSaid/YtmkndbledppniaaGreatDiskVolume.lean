/- DiskVolume: for every input the law returns true. -/
import Derived.Test.YtmkndbledppniaaGreatWVolume
import Derived.Test.YtmkndbledppniaaGreatSteps
import Derived.Test.YtmkndbledppniaaGreatFrame
import Derived.SizedLaws
namespace Go.Proofs.YtmkndbledppniaaGreat.diskVolume
open Go.ChangeShapes Go.WideShapes Go.ChangeAt Go.RowKit
open Go.ChangeMaps (open_string shut_string)
set_option maxRecDepth 100000 in
set_option maxHeartbeats 4000000 in
theorem lifted (os : Os) (started : os.Started) (H : Type) (enc : TypeId × Value → H) :
    ReturnsInHanded {} Tryz.checked os 3 .any (Rows.diskVolumeSpec.pre6 enc Tryz.prog Tryz.f3 Rows.diskVolumeRow.domain false) (Rows.diskVolumeSpec.post enc Tryz.prog Tryz.f3 false true false false) := by
  refine returnsInHanded_of_change_sized (C := Tryz.checked) own started (by kernel_rfl) Tryz.func3
    (ChangeSpec.witness6 (enc := enc) (C := Tryz.checked) false ⟨#[], #[.agg #[.string ByteArray.empty, .int .i64 0, .int .i64 0, .slice none 0 0]], []⟩ 8 (by kernel_rfl) (by kernel_rfl) (by kernel_rfl) (by kernel_rfl)) ?_
  intro W base args ds gs before hval0 hW _ hsz0 _
  have hval : ∀ (j : Nat) t v, Tryz.f3.params[j]? = some t → args[j]? = some v → Value.okWide Tryz.prog W .any base t v := hval0
  have hW' := hW
  obtain ⟨p, q, hA0, hV, rfl, _, _⟩ := hW
  have hA : DataW.TrodAll enc Tryz.prog W 0 (fun _ => true) true Tryz.f3.params.toList args.toList ds p := hA0
  rw [Tryz.params3] at hA hval
  have hsz : (DataW.weightsEach Tryz.prog (Tryz.f3.params.toList ++ Rows.diskVolumeSpec.plain.varTypes Tryz.prog) (ds ++ gs)).all (· ≤ reachBytes) = true := hsz0
  rw [Tryz.params3] at hsz
  obtain ⟨v0, vs0, d0, ds0, p0, q0, hargs, rfl, rfl, h0, r0⟩ := trodAll_cons hA
  obtain ⟨rfl, rfl, rfl⟩ := trodAll_nil r0
  obtain rfl : args = #[v0] := by cases args; simp_all
  obtain ⟨rfl, rfl⟩ := trodVars_none hV
  have k0 := h0
  have lt0 : ∀ x ∈ p0, x.block < W.heap.size := by obtain ⟨m, hm⟩ := k0; exact DataW.trod_lt m _ _ _ hm
  have hR0 : ∀ n ∈ DataW.weights Tryz.prog 24 d0, n ≤ reachBytes := fun n hn => by
    have h := List.all_eq_true.1 hsz n (DataW.weights_mem_each (ts := [24] ++ []) (j := 0) (t := 24) rfl rfl n hn)
    simpa using h
  obtain ⟨cs0, rfl, hsz0, hfs0⟩ := open_fieldsW Tryz.underlying24 (by kernel_rfl) (hval 0 24 v0 rfl rfl) h0 hR0
  obtain ⟨u0_0, u0_1, u0_2, u0_3, rfl⟩ := array_4 (hsz0.trans (by kernel_rfl))
  obtain ⟨m0, y0, hy0, hw0⟩ := hfs0 0 _ _ rfl rfl
  obtain ⟨m1, y1, hy1, _⟩ := hfs0 1 _ _ rfl rfl
  obtain ⟨m2, y2, hy2, _⟩ := hfs0 2 _ _ rfl rfl
  obtain ⟨m3, y3, hy3, hw3⟩ := hfs0 3 _ _ rfl rfl
  obtain ⟨ser, rfl, hser⟩ := open_ser Tryz.underlying9 hy0 hw0
  obtain ⟨z1, q1, _, _⟩ := DataW.trod_int Tryz.underlying3 hy1
  obtain ⟨z2, q2, _, _⟩ := DataW.trod_int Tryz.underlying3 hy2
  obtain rfl := (List.cons.inj q1).1
  obtain rfl := (List.cons.inj q2).1
  obtain ⟨As, ls, cs, rfl, hls, hcms, hats, hgoods, hlens⟩ := open_steps (R := reachBytes) (by simp only [reachBytes]; omega) Tryz.underlying22 Tryz.underlying37 (by kernel_rfl) (by kernel_rfl) ⟨_, rfl, rfl⟩ ⟨_, rfl, rfl⟩ ⟨_, rfl, rfl⟩ ⟨_, rfl, rfl⟩ ⟨_, rfl, rfl⟩ Tryz.underlying3 Tryz.underlying3 Tryz.underlying3 Tryz.underlying34 Tryz.underlying5 (by kernel_rfl)
    (fun hh hw => open_recsW Tryz.underlying35 Tryz.underlying62 (by kernel_rfl) (by kernel_rfl) ⟨_, rfl, rfl⟩ ⟨_, rfl, rfl⟩ ⟨_, rfl, rfl⟩ ⟨_, rfl, rfl⟩ Tryz.underlying3 Tryz.underlying34 Tryz.underlying5 (by kernel_rfl) Tryz.underlying34 Tryz.underlying4 hh (of_decide_eq_true (by kernel_rfl)) (by kernel_rfl) hw) hy3 (of_decide_eq_true (by kernel_rfl)) hw3
  clear hA0 hval0
  refine (walk_diskVolume W ser (by simp only [reachBytes] at hser; omega) _ _ As ls cs (by simp only [reachBytes] at hlens; omega) hats hgoods).mono fun e W' ⟨he, bel⟩ => ?_
  subst he
  exact ⟨_, rfl, _, _, _, [], _, [], hW', trodAll_mk1 (shut_bool Tryz.underlying4 _), (trodAll_cons_mk (Below.trod laidOut (by kernel_rfl) (of_decide_eq_true (by kernel_rfl)) k0 bel lt0) trodAll_mk0), rfl, bel.frame _, fun h => by cases h⟩

theorem over : Rows.diskVolumeRow.holds Tryz.pinned (OpenSpec.ofChange Rows.diskVolumeSpec) :=
  OpenClaim.holds_of_wide 3 Tryz.f3 rfl rfl rfl rfl rfl rfl rfl ⟨rfl, rfl, rfl, rfl, rfl⟩ rfl rfl rfl rfl rfl (by kernel_rfl) Tryz.func3 (by kernel_rfl)
    (of_decide_eq_true (by kernel_rfl)) (by unfold Func.isWrapper; first | (rw [if_pos (by decide +kernel)]; kernel_rfl) | (rw [if_neg (by decide +kernel)]; exact ⟨rfl, rfl⟩))
    (fun os started H enc _ => lifted os started H enc)

theorem proved : Rows.DiskVolumeSaid := over
#print axioms proved
end Go.Proofs.YtmkndbledppniaaGreat.diskVolume
