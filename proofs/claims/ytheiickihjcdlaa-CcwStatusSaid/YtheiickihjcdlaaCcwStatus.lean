/- CcwStatus: for every input the law returns true. -/
import Derived.Test.YtheiickihjcdlaaWStatus
import Derived.Test.YtheiickihjcdlaaStruct
import Derived.Test.YtheiickihjcdlaaFrame
namespace Go.Proofs.Ytheiickihjcdlaa.ccwStatus
open Go.ChangeShapes Go.WideShapes Go.ChangeAt Go.RowKit
open Go.ChangeMaps (open_string shut_string)
set_option maxRecDepth 100000 in
theorem lifted (os : Os) (started : os.Started) (H : Type) (enc : TypeId × Value → H) :
    ReturnsInHanded {} Try.checked os 7 .any (Rows.ccwStatusSpec.pre6 enc Try.prog Try.f7 Rows.ccwStatusRow.domain false) (Rows.ccwStatusSpec.post enc Try.prog Try.f7 false true false false) := by
  refine returnsInHanded_of_change (C := Try.checked) own started (by kernel_rfl) Try.func7
    (ChangeSpec.witness6 (enc := enc) (C := Try.checked) false ⟨#[], #[.agg #[.int .i64 0, .int .i64 0, .int .i64 0, .int .i64 0, .int .i64 0], .int .i64 0, .int .i64 0], []⟩ 8 (by kernel_rfl) (by kernel_rfl) (by kernel_rfl) (by kernel_rfl)) ?_
  intro W base args ds gs before hval0 hW _ _
  have hval : ∀ (j : Nat) t v, Try.f7.params[j]? = some t → args[j]? = some v → Value.okWide Try.prog W .any base t v := hval0
  have hW' := hW
  obtain ⟨p, q, hA0, hV, rfl, _, _⟩ := hW
  have hA : DataW.TrodAll enc Try.prog W 0 (fun _ => true) true Try.f7.params.toList args.toList ds p := hA0
  rw [Try.params7] at hA hval
  obtain ⟨v0, vs0, d0, ds0, p0, q0, hargs, rfl, rfl, h0, r0⟩ := trodAll_cons hA
  obtain ⟨v1, vs1, d1, ds1, p1, q1, rfl, rfl, rfl, h1, r1⟩ := trodAll_cons r0
  obtain ⟨v2, vs2, d2, ds2, p2, q2, rfl, rfl, rfl, h2, r2⟩ := trodAll_cons r1
  obtain ⟨rfl, rfl, rfl⟩ := trodAll_nil r2
  obtain rfl : args = #[v0, v1, v2] := by cases args; simp_all
  obtain ⟨rfl, rfl⟩ := trodVars_none hV
  have k0 := h0
  have lt0 : ∀ x ∈ p0, x.block < W.heap.size := by obtain ⟨m, hm⟩ := k0; exact DataW.trod_lt m _ _ _ hm
  obtain ⟨cs0, rfl, hsz0, hfs0⟩ := open_fields Try.underlying36 (by kernel_rfl) (hval 0 36 v0 rfl rfl) h0
  obtain ⟨u0_0, u0_1, u0_2, u0_3, u0_4, rfl⟩ := array_5 (hsz0.trans (by kernel_rfl))
  obtain ⟨m0_0, y0_0, hy0_0⟩ := hfs0 0 _ u0_0 rfl rfl
  obtain ⟨a0_0, hb0_0, _, w0_0⟩ := DataW.trod_int Try.underlying3 hy0_0
  obtain rfl := (List.cons.inj hb0_0).1
  obtain ⟨m0_1, y0_1, hy0_1⟩ := hfs0 1 _ u0_1 rfl rfl
  obtain ⟨a0_1, hb0_1, _, w0_1⟩ := DataW.trod_int Try.underlying3 hy0_1
  obtain rfl := (List.cons.inj hb0_1).1
  obtain ⟨m0_2, y0_2, hy0_2⟩ := hfs0 2 _ u0_2 rfl rfl
  obtain ⟨a0_2, hb0_2, _, w0_2⟩ := DataW.trod_int Try.underlying3 hy0_2
  obtain rfl := (List.cons.inj hb0_2).1
  obtain ⟨m0_3, y0_3, hy0_3⟩ := hfs0 3 _ u0_3 rfl rfl
  obtain ⟨a0_3, hb0_3, _, w0_3⟩ := DataW.trod_int Try.underlying3 hy0_3
  obtain rfl := (List.cons.inj hb0_3).1
  obtain ⟨m0_4, y0_4, hy0_4⟩ := hfs0 4 _ u0_4 rfl rfl
  obtain ⟨a0_4, hb0_4, _, w0_4⟩ := DataW.trod_int Try.underlying3 hy0_4
  obtain rfl := (List.cons.inj hb0_4).1
  have k1 := h1
  have lt1 : ∀ x ∈ p1, x.block < W.heap.size := by obtain ⟨m, hm⟩ := k1; exact DataW.trod_lt m _ _ _ hm
  obtain ⟨a1, rfl, _, _, w1⟩ := open_int Try.underlying3 (hval 1 3 v1 rfl rfl) h1
  have k2 := h2
  have lt2 : ∀ x ∈ p2, x.block < W.heap.size := by obtain ⟨m, hm⟩ := k2; exact DataW.trod_lt m _ _ _ hm
  obtain ⟨a2, rfl, _, _, w2⟩ := open_int Try.underlying3 (hval 2 3 v2 rfl rfl) h2
  clear hA0 hval0
  refine (walk_ccwStatus W a0_0 a0_1 a0_2 a0_3 a0_4 w0_0 w0_1 w0_2 w0_3 w0_4 a1 w1 a2 w2).mono fun e W' ⟨he, bel⟩ => ?_
  subst he
  exact ⟨_, rfl, _, _, _, [], _, [], hW', trodAll_mk1 (shut_bool Try.underlying4 _), (trodAll_cons_mk (Below.trod laidOut (by kernel_rfl) (of_decide_eq_true (by kernel_rfl)) k0 bel lt0) (trodAll_cons_mk (Below.trod laidOut (by kernel_rfl) (of_decide_eq_true (by kernel_rfl)) k1 bel lt1) (trodAll_cons_mk (Below.trod laidOut (by kernel_rfl) (of_decide_eq_true (by kernel_rfl)) k2 bel lt2) trodAll_mk0))), rfl, bel.frame _, fun h => by cases h⟩

theorem over : Rows.ccwStatusRow.holds Try.pinned (OpenSpec.ofChange Rows.ccwStatusSpec) :=
  OpenClaim.holds_of_wide 7 Try.f7 rfl rfl rfl rfl rfl rfl rfl ⟨rfl, rfl, rfl, rfl, rfl⟩ rfl rfl rfl rfl rfl (by kernel_rfl) Try.func7 (by kernel_rfl)
    (of_decide_eq_true (by kernel_rfl)) (by unfold Func.isWrapper; first | (rw [if_pos (by decide +kernel)]; kernel_rfl) | (rw [if_neg (by decide +kernel)]; exact ⟨rfl, rfl⟩))
    (fun os started H enc _ => lifted os started H enc)

theorem proved : Rows.CcwStatusSaid := over
#print axioms proved
end Go.Proofs.Ytheiickihjcdlaa.ccwStatus
