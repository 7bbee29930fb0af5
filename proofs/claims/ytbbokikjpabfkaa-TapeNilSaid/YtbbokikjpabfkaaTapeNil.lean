/- TapeNil: for every input the law returns true. -/
import Derived.Test.YtbbokikjpabfkaaWNil
import Derived.Test.YtbbokikjpabfkaaStruct
import Derived.Test.YtbbokikjpabfkaaArgs
import Derived.Test.YtbbokikjpabfkaaFrame
namespace Go.Proofs.Ytbbokikjpabfkaa.tapeNil
open Go.ChangeShapes Go.WideShapes Go.ChangeAt Go.RowKit
open Go.ChangeMaps (open_string shut_string)
set_option maxRecDepth 100000 in
theorem lifted (os : Os) (started : os.Started) (H : Type) (enc : TypeId × Value → H) :
    ReturnsInHanded {} Try.checked os 9 .any (Rows.tapeNilSpec.pre6 enc Try.prog Try.f9 Rows.tapeNilRow.domain false) (Rows.tapeNilSpec.post enc Try.prog Try.f9 false true false false) := by
  refine returnsInHanded_of_change (C := Try.checked) own started (by kernel_rfl) Try.func9
    (ChangeSpec.witness6 (enc := enc) (C := Try.checked) false ⟨#[], #[.agg #[.int .i64 0, .int .i64 0, .slice none 0 0, .int .i64 0]], []⟩ 8 (by kernel_rfl) (by kernel_rfl) (by kernel_rfl) (by kernel_rfl)) ?_
  intro W base args ds gs before hval0 hW _ _
  have hval : ∀ (j : Nat) t v, Try.f9.params[j]? = some t → args[j]? = some v → Value.okWide Try.prog W .any base t v := hval0
  have hW' := hW
  obtain ⟨p, q, hA0, hV, rfl, _, _⟩ := hW
  have hA : DataW.TrodAll enc Try.prog W 0 (fun _ => true) true Try.f9.params.toList args.toList ds p := hA0
  rw [Try.params9] at hA hval
  obtain ⟨v0, vs0, d0, ds0, p0, q0, hargs, rfl, rfl, h0, r0⟩ := trodAll_cons hA
  obtain ⟨rfl, rfl, rfl⟩ := trodAll_nil r0
  obtain rfl : args = #[v0] := by cases args; simp_all
  obtain ⟨rfl, rfl⟩ := trodVars_none hV
  have k0 := h0
  have lt0 : ∀ x ∈ p0, x.block < W.heap.size := by obtain ⟨m, hm⟩ := k0; exact DataW.trod_lt m _ _ _ hm
  obtain ⟨cs0, rfl, hsz0, hfs0⟩ := open_fields Try.underlying45 (by kernel_rfl) (hval 0 45 v0 rfl rfl) h0
  obtain ⟨u0_0, u0_1, u0_2, u0_3, rfl⟩ := array_4 (hsz0.trans (by kernel_rfl))
  obtain ⟨m0_0, y0_0, hy0_0⟩ := hfs0 0 _ u0_0 rfl rfl
  obtain ⟨a0_0, hb0_0, _, w0_0⟩ := DataW.trod_int Try.underlying3 hy0_0
  obtain rfl := (List.cons.inj hb0_0).1
  obtain ⟨m0_1, y0_1, hy0_1⟩ := hfs0 1 _ u0_1 rfl rfl
  obtain ⟨a0_1, hb0_1, _, w0_1⟩ := DataW.trod_int Try.underlying3 hy0_1
  obtain rfl := (List.cons.inj hb0_1).1
  obtain ⟨m0_2, y0_2, hy0_2⟩ := hfs0 2 _ u0_2 rfl rfl
  obtain ⟨a0_2, rfl, g0_2⟩ := open_card Try.underlying23 Try.underlying5 (by kernel_rfl) hy0_2
  obtain ⟨m0_3, y0_3, hy0_3⟩ := hfs0 3 _ u0_3 rfl rfl
  obtain ⟨a0_3, hb0_3, _, w0_3⟩ := DataW.trod_int Try.underlying3 hy0_3
  obtain rfl := (List.cons.inj hb0_3).1
  clear hA0 hval0
  refine (walk_tapeNil W a0_0 a0_1 a0_2 a0_3 w0_0 w0_1 w0_3 g0_2).mono fun e W' ⟨he, bel⟩ => ?_
  subst he
  exact ⟨_, rfl, _, _, _, [], _, [], hW', trodAll_mk1 (shut_bool Try.underlying4 _), (trodAll_cons_mk (Below.trod laidOut (by kernel_rfl) (of_decide_eq_true (by kernel_rfl)) k0 bel lt0) trodAll_mk0), rfl, bel.frame _, fun h => by cases h⟩

theorem over : Rows.tapeNilRow.holds Try.pinned (OpenSpec.ofChange Rows.tapeNilSpec) :=
  OpenClaim.holds_of_wide 9 Try.f9 rfl rfl rfl rfl rfl rfl rfl ⟨rfl, rfl, rfl, rfl, rfl⟩ rfl rfl rfl rfl rfl (by kernel_rfl) Try.func9 (by kernel_rfl)
    (of_decide_eq_true (by kernel_rfl)) (by unfold Func.isWrapper; first | (rw [if_pos (by decide +kernel)]; kernel_rfl) | (rw [if_neg (by decide +kernel)]; exact ⟨rfl, rfl⟩))
    (fun os started H enc _ => lifted os started H enc)

theorem proved : Rows.TapeNilSaid := over
#print axioms proved
end Go.Proofs.Ytbbokikjpabfkaa.tapeNil
