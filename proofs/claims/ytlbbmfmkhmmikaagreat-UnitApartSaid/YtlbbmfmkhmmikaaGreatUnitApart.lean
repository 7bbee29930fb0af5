/- UnitApart: for every input the law returns true. -/
import Derived.Test.YtlbbmfmkhmmikaaGreatWApart
import Derived.Test.YtlbbmfmkhmmikaaGreatStruct
import Derived.Test.YtlbbmfmkhmmikaaGreatFrame
namespace Go.Proofs.YtlbbmfmkhmmikaaGreat.unitApart
open Go.ChangeShapes Go.WideShapes Go.ChangeAt Go.RowKit
open Go.ChangeMaps (open_string shut_string)
open Go.Proofs.YtlbbmfmkhmmikaaGreat.U
set_option maxRecDepth 100000 in
theorem lifted (os : Os) (started : os.Started) (H : Type) (enc : TypeId × Value → H) :
    ReturnsInHanded {} Tryz.checked os 7 .any (Rows.unitApartSpec.pre6 enc Tryz.prog Tryz.f7 Rows.unitApartRow.domain false) (Rows.unitApartSpec.post enc Tryz.prog Tryz.f7 false true false false) := by
  refine returnsInHanded_of_change (C := Tryz.checked) own started (by kernel_rfl) Tryz.func7
    (ChangeSpec.witness6 (enc := enc) (C := Tryz.checked) false ⟨#[], #[.agg #[.int .u8 0, .int .i64 0, .int .i64 0, .slice none 0 0, .int .i64 0, .int .i64 0]], []⟩ 8 (by kernel_rfl) (by kernel_rfl) (by kernel_rfl) (by kernel_rfl)) ?_
  intro W base args ds gs before hval0 hW _ _
  have hval : ∀ (j : Nat) t v, Tryz.f7.params[j]? = some t → args[j]? = some v → Value.okWide Tryz.prog W .any base t v := hval0
  have hW' := hW
  obtain ⟨p, q, hA0, hV, rfl, _, _⟩ := hW
  have hA : DataW.TrodAll enc Tryz.prog W 0 (fun _ => true) true Tryz.f7.params.toList args.toList ds p := hA0
  rw [Tryz.params7] at hA hval
  obtain ⟨v0, vs0, d0, ds0, p0, q0, hargs, rfl, rfl, h0, r0⟩ := trodAll_cons hA
  obtain ⟨rfl, rfl, rfl⟩ := trodAll_nil r0
  obtain rfl : args = #[v0] := by cases args; simp_all
  obtain ⟨rfl, rfl⟩ := trodVars_none hV
  have k0 := h0
  have lt0 : ∀ x ∈ p0, x.block < W.heap.size := by obtain ⟨m, hm⟩ := k0; exact DataW.trod_lt m _ _ _ hm
  obtain ⟨cs0, rfl, hsz0, hfs0⟩ := open_fields Tryz.underlying62 (by kernel_rfl) (hval 0 62 v0 rfl rfl) h0
  obtain ⟨u0_0, u0_1, u0_2, u0_3, u0_4, u0_5, rfl⟩ := array_6 (hsz0.trans (by kernel_rfl))
  obtain ⟨m0_0, y0_0, hy0_0⟩ := hfs0 0 _ u0_0 rfl rfl
  obtain ⟨a0_0, hb0_0, _, w0_0⟩ := DataW.trod_int Tryz.underlying5 hy0_0
  obtain rfl := (List.cons.inj hb0_0).1
  obtain ⟨m0_1, y0_1, hy0_1⟩ := hfs0 1 _ u0_1 rfl rfl
  obtain ⟨a0_1, hb0_1, _, w0_1⟩ := DataW.trod_int Tryz.underlying3 hy0_1
  obtain rfl := (List.cons.inj hb0_1).1
  obtain ⟨m0_2, y0_2, hy0_2⟩ := hfs0 2 _ u0_2 rfl rfl
  obtain ⟨a0_2, hb0_2, _, w0_2⟩ := DataW.trod_int Tryz.underlying3 hy0_2
  obtain rfl := (List.cons.inj hb0_2).1
  obtain ⟨m0_3, y0_3, hy0_3⟩ := hfs0 3 _ u0_3 rfl rfl
  obtain ⟨a0_3, rfl, g0_3⟩ := open_card Tryz.underlying27 Tryz.underlying5 (by kernel_rfl) hy0_3
  obtain ⟨m0_4, y0_4, hy0_4⟩ := hfs0 4 _ u0_4 rfl rfl
  obtain ⟨a0_4, hb0_4, _, w0_4⟩ := DataW.trod_int Tryz.underlying3 hy0_4
  obtain rfl := (List.cons.inj hb0_4).1
  obtain ⟨m0_5, y0_5, hy0_5⟩ := hfs0 5 _ u0_5 rfl rfl
  obtain ⟨a0_5, hb0_5, _, w0_5⟩ := DataW.trod_int Tryz.underlying3 hy0_5
  obtain rfl := (List.cons.inj hb0_5).1
  clear hA0 hval0
  refine (walk_unitApart W a0_0 a0_1 a0_2 a0_3 a0_4 a0_5 w0_0 w0_1 w0_2 w0_4 w0_5 g0_3).mono fun e W' ⟨he, bel⟩ => ?_
  subst he
  exact ⟨_, rfl, _, _, _, [], _, [], hW', trodAll_mk1 (shut_bool Tryz.underlying4 _), (trodAll_cons_mk (Below.trod laidOut (by kernel_rfl) (of_decide_eq_true (by kernel_rfl)) k0 bel lt0) trodAll_mk0), rfl, bel.frame _, fun h => by cases h⟩

theorem over : Rows.unitApartRow.holds Tryz.pinned (OpenSpec.ofChange Rows.unitApartSpec) :=
  OpenClaim.holds_of_wide 7 Tryz.f7 rfl rfl rfl rfl rfl rfl rfl ⟨rfl, rfl, rfl, rfl, rfl⟩ rfl rfl rfl rfl rfl (by kernel_rfl) Tryz.func7 (by kernel_rfl)
    (of_decide_eq_true (by kernel_rfl)) (by unfold Func.isWrapper; first | (rw [if_pos (by decide +kernel)]; kernel_rfl) | (rw [if_neg (by decide +kernel)]; exact ⟨rfl, rfl⟩))
    (fun os started H enc _ => lifted os started H enc)

theorem proved : Rows.UnitApartSaid := over
#print axioms proved
end Go.Proofs.YtlbbmfmkhmmikaaGreat.unitApart
