/- DiskKeeps: for every input the law returns true. -/
import Derived.Test.YtmkndbledppniaaWKeeps
import Derived.Test.YtmkndbledppniaaSteps
import Derived.Test.YtmkndbledppniaaFrame
import Derived.SizedLaws
namespace Go.Proofs.Ytmkndbledppniaa.diskKeeps
open Go.ChangeShapes Go.WideShapes Go.ChangeAt Go.RowKit
open Go.ChangeMaps (open_string shut_string)
set_option maxRecDepth 100000 in
set_option maxHeartbeats 4000000 in
theorem lifted (os : Os) (started : os.Started) (H : Type) (enc : TypeId × Value → H) :
    ReturnsInHanded {} Try.checked os 7 .any (Rows.diskKeepsSpec.pre6 enc Try.prog Try.f7 Rows.diskKeepsRow.domain false) (Rows.diskKeepsSpec.post enc Try.prog Try.f7 false true false false) := by
  refine returnsInHanded_of_change_sized (C := Try.checked) own started (by kernel_rfl) Try.func7
    (ChangeSpec.witness6 (enc := enc) (C := Try.checked) false ⟨#[], #[.agg #[.string ByteArray.empty, .int .i64 0, .int .i64 0, .slice none 0 0], .int .i64 0, .slice none 0 0], []⟩ 8 (by kernel_rfl) (by kernel_rfl) (by kernel_rfl) (by kernel_rfl)) ?_
  intro W base args ds gs before hval0 hW _ hsz0 _
  have hval : ∀ (j : Nat) t v, Try.f7.params[j]? = some t → args[j]? = some v → Value.okWide Try.prog W .any base t v := hval0
  have hW' := hW
  obtain ⟨p, q, hA0, hV, rfl, _, _⟩ := hW
  have hA : DataW.TrodAll enc Try.prog W 0 (fun _ => true) true Try.f7.params.toList args.toList ds p := hA0
  rw [Try.params7] at hA hval
  have hsz : (DataW.weightsEach Try.prog (Try.f7.params.toList ++ Rows.diskKeepsSpec.plain.varTypes Try.prog) (ds ++ gs)).all (· ≤ reachBytes) = true := hsz0
  rw [Try.params7] at hsz
  obtain ⟨v0, vs0, d0, ds0, p0, q0, hargs, rfl, rfl, h0, r0⟩ := trodAll_cons hA
  obtain ⟨v1, vs1, d1, ds1, p1, q1, rfl, rfl, rfl, h1, r1⟩ := trodAll_cons r0
  obtain ⟨v2, vs2, d2, ds2, p2, q2, rfl, rfl, rfl, h2, r2⟩ := trodAll_cons r1
  obtain ⟨rfl, rfl, rfl⟩ := trodAll_nil r2
  obtain rfl : args = #[v0, v1, v2] := by cases args; simp_all
  obtain ⟨rfl, rfl⟩ := trodVars_none hV
  have k0 := h0
  have lt0 : ∀ x ∈ p0, x.block < W.heap.size := by obtain ⟨m, hm⟩ := k0; exact DataW.trod_lt m _ _ _ hm
  have hR0 : ∀ n ∈ DataW.weights Try.prog 47 d0, n ≤ reachBytes := fun n hn => by
    have h := List.all_eq_true.1 hsz n (DataW.weights_mem_each (ts := [47, 3, 26] ++ []) (j := 0) (t := 47) rfl rfl n hn)
    simpa using h
  obtain ⟨cs0, rfl, hsz0, hfs0⟩ := open_fieldsW Try.underlying47 (by kernel_rfl) (hval 0 47 v0 rfl rfl) h0 hR0
  obtain ⟨u0_0, u0_1, u0_2, u0_3, rfl⟩ := array_4 (hsz0.trans (by kernel_rfl))
  obtain ⟨m0, y0, hy0, hw0⟩ := hfs0 0 _ _ rfl rfl
  obtain ⟨m1, y1, hy1, _⟩ := hfs0 1 _ _ rfl rfl
  obtain ⟨m2, y2, hy2, _⟩ := hfs0 2 _ _ rfl rfl
  obtain ⟨m3, y3, hy3, hw3⟩ := hfs0 3 _ _ rfl rfl
  obtain ⟨ser, rfl, hser⟩ := open_ser Try.underlying9 hy0 hw0
  obtain ⟨z1, q1, _, _⟩ := DataW.trod_int Try.underlying3 hy1
  obtain ⟨z2, q2, _, _⟩ := DataW.trod_int Try.underlying3 hy2
  obtain rfl := (List.cons.inj q1).1
  obtain rfl := (List.cons.inj q2).1
  obtain ⟨As, ls, cs, rfl, hls, hcms, hats, hgoods, hlens⟩ := open_steps (R := reachBytes) (by simp only [reachBytes]; omega) Try.underlying45 Try.underlying80 (by kernel_rfl) (by kernel_rfl) ⟨_, rfl, rfl⟩ ⟨_, rfl, rfl⟩ ⟨_, rfl, rfl⟩ ⟨_, rfl, rfl⟩ ⟨_, rfl, rfl⟩ Try.underlying3 Try.underlying3 Try.underlying3 Try.underlying26 Try.underlying5 (by kernel_rfl)
    (fun hh hw => open_recsW Try.underlying38 Try.underlying73 (by kernel_rfl) (by kernel_rfl) ⟨_, rfl, rfl⟩ ⟨_, rfl, rfl⟩ ⟨_, rfl, rfl⟩ ⟨_, rfl, rfl⟩ Try.underlying3 Try.underlying26 Try.underlying5 (by kernel_rfl) Try.underlying26 Try.underlying4 hh (of_decide_eq_true (by kernel_rfl)) (by kernel_rfl) hw) hy3 (of_decide_eq_true (by kernel_rfl)) hw3
  have k1 := h1
  have lt1 : ∀ x ∈ p1, x.block < W.heap.size := by obtain ⟨m, hm⟩ := k1; exact DataW.trod_lt m _ _ _ hm
  obtain ⟨a1, rfl, _, _, w1⟩ := open_int Try.underlying3 (hval 1 3 v1 rfl rfl) h1
  have k2 := h2
  have lt2 : ∀ x ∈ p2, x.block < W.heap.size := by obtain ⟨m, hm⟩ := k2; exact DataW.trod_lt m _ _ _ hm
  obtain ⟨a2, len2, cap2, rfl⟩ := okWide_slice Try.underlying26 (hval 2 26 v2 rfl rfl)
  obtain ⟨fuel2, hf2⟩ := h2
  obtain ⟨l2, rfl, hlc2, hcm2, hat2⟩ := open_bytes Try.underlying26 Try.underlying5 (by kernel_rfl) hf2
  clear hA0 hval0
  refine (walk_diskKeeps W ser (by simp only [reachBytes] at hser; omega) _ _ As ls cs (by simp only [reachBytes] at hlens; omega) hats hgoods a1 a2 l2 cap2 ⟨hat2, hlc2, hcm2⟩).mono fun e W' ⟨he, bel⟩ => ?_
  subst he
  exact ⟨_, rfl, _, _, _, [], _, [], hW', trodAll_mk1 (shut_bool Try.underlying4 _), (trodAll_cons_mk (Below.trod laidOut (by kernel_rfl) (of_decide_eq_true (by kernel_rfl)) k0 bel lt0) (trodAll_cons_mk (Below.trod laidOut (by kernel_rfl) (of_decide_eq_true (by kernel_rfl)) k1 bel lt1) (trodAll_cons_mk (Below.trod laidOut (by kernel_rfl) (of_decide_eq_true (by kernel_rfl)) k2 bel lt2) trodAll_mk0))), rfl, bel.frame _, fun h => by cases h⟩

theorem over : Rows.diskKeepsRow.holds Try.pinned (OpenSpec.ofChange Rows.diskKeepsSpec) :=
  OpenClaim.holds_of_wide 7 Try.f7 rfl rfl rfl rfl rfl rfl rfl ⟨rfl, rfl, rfl, rfl, rfl⟩ rfl rfl rfl rfl rfl (by kernel_rfl) Try.func7 (by kernel_rfl)
    (of_decide_eq_true (by kernel_rfl)) (by unfold Func.isWrapper; first | (rw [if_pos (by decide +kernel)]; kernel_rfl) | (rw [if_neg (by decide +kernel)]; exact ⟨rfl, rfl⟩))
    (fun os started H enc _ => lifted os started H enc)

theorem proved : Rows.DiskKeepsSaid := over
#print axioms proved
end Go.Proofs.Ytmkndbledppniaa.diskKeeps
