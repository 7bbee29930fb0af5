/- TrackOwn: for every input the law returns true. -/
import Derived.Test.YtelfihgkbbaifaaWOwn
import Derived.Test.YtelfihgkbbaifaaStruct
import Derived.Test.YtelfihgkbbaifaaArgs
import Derived.Test.YtelfihgkbbaifaaFrame
namespace Go.Proofs.Ytelfihgkbbaifaa.trackOwn
open Go.ChangeShapes Go.WideShapes Go.ChangeAt Go.RowKit
open Go.ChangeMaps (open_string shut_string)
set_option maxRecDepth 100000 in
theorem lifted (os : Os) (started : os.Started) (H : Type) (enc : TypeId × Value → H) :
    ReturnsInHanded {} Try.checked os 9 .any (Rows.trackOwnSpec.pre6 enc Try.prog Try.f9 Rows.trackOwnRow.domain false) (Rows.trackOwnSpec.post enc Try.prog Try.f9 false true false false) := by
  refine returnsInHanded_of_change (C := Try.checked) own started (by kernel_rfl) Try.func9
    (ChangeSpec.witness6 (enc := enc) (C := Try.checked) false ⟨#[], #[.slice none 0 0, .agg #[.int .i64 0, .slice none 0 0, .slice none 0 0, .bool false]], []⟩ 8 (by kernel_rfl) (by kernel_rfl) (by kernel_rfl) (by kernel_rfl)) ?_
  intro W base args ds gs before hval0 hW _ _
  have hval : ∀ (j : Nat) t v, Try.f9.params[j]? = some t → args[j]? = some v → Value.okWide Try.prog W .any base t v := hval0
  have hW' := hW
  obtain ⟨p, q, hA0, hV, rfl, _, _⟩ := hW
  have hA : DataW.TrodAll enc Try.prog W 0 (fun _ => true) true Try.f9.params.toList args.toList ds p := hA0
  rw [Try.params9] at hA hval
  obtain ⟨v0, vs0, d0, ds0, p0, q0, hargs, rfl, rfl, h0, r0⟩ := trodAll_cons hA
  obtain ⟨v1, vs1, d1, ds1, p1, q1, rfl, rfl, rfl, h1, r1⟩ := trodAll_cons r0
  obtain ⟨rfl, rfl, rfl⟩ := trodAll_nil r1
  obtain rfl : args = #[v0, v1] := by cases args; simp_all
  obtain ⟨rfl, rfl⟩ := trodVars_none hV
  have k0 := h0
  have lt0 : ∀ x ∈ p0, x.block < W.heap.size := by obtain ⟨m, hm⟩ := k0; exact DataW.trod_lt m _ _ _ hm
  obtain ⟨a0, len0, cap0, rfl⟩ := okWide_slice Try.underlying22 (hval 0 22 v0 rfl rfl)
  obtain ⟨fuel0, hf0⟩ := h0
  obtain ⟨b0, l0, c0, e0, hl0, hcm0, hat0⟩ := open_recs Try.underlying22 Try.underlying25 (by kernel_rfl) (by kernel_rfl) ⟨_, rfl, rfl⟩ ⟨_, rfl, rfl⟩ ⟨_, rfl, rfl⟩ ⟨_, rfl, rfl⟩ Try.underlying3 Try.underlying23 Try.underlying5 (by kernel_rfl) Try.underlying23 Try.underlying4 hf0
  injection e0 with ea0 eb0 ec0
  subst ea0; subst eb0; subst ec0
  have k1 := h1
  have lt1 : ∀ x ∈ p1, x.block < W.heap.size := by obtain ⟨m, hm⟩ := k1; exact DataW.trod_lt m _ _ _ hm
  obtain ⟨cs1, rfl, hsz1, hfs1⟩ := open_fields Try.underlying25 (by kernel_rfl) (hval 1 25 v1 rfl rfl) h1
  obtain ⟨u1_0, u1_1, u1_2, u1_3, rfl⟩ := array_4 (hsz1.trans (by kernel_rfl))
  obtain ⟨m1_0, y1_0, hy1_0⟩ := hfs1 0 _ u1_0 rfl rfl
  obtain ⟨a1_0, hb1_0, _, w1_0⟩ := DataW.trod_int Try.underlying3 hy1_0
  obtain rfl := (List.cons.inj hb1_0).1
  obtain ⟨m1_1, y1_1, hy1_1⟩ := hfs1 1 _ u1_1 rfl rfl
  obtain ⟨a1_1, rfl, g1_1⟩ := open_card Try.underlying23 Try.underlying5 (by kernel_rfl) hy1_1
  obtain ⟨m1_2, y1_2, hy1_2⟩ := hfs1 2 _ u1_2 rfl rfl
  obtain ⟨a1_2, rfl, g1_2⟩ := open_card Try.underlying23 Try.underlying5 (by kernel_rfl) hy1_2
  obtain ⟨m1_3, y1_3, hy1_3⟩ := hfs1 3 _ u1_3 rfl rfl
  obtain ⟨a1_3, hb1_3, _⟩ := DataW.trod_bool Try.underlying4 hy1_3
  obtain rfl := (List.cons.inj hb1_3).1
  clear hA0 hval0
  refine (walk_trackOwn W _ l0 _ hl0 hcm0 hat0 a1_0 a1_1 a1_2 a1_3 w1_0 g1_1 g1_2).mono fun e W' ⟨he, bel⟩ => ?_
  subst he
  exact ⟨_, rfl, _, _, _, [], _, [], hW', trodAll_mk1 (shut_bool Try.underlying4 _), (trodAll_cons_mk (Below.trod laidOut (by kernel_rfl) (of_decide_eq_true (by kernel_rfl)) k0 bel lt0) (trodAll_cons_mk (Below.trod laidOut (by kernel_rfl) (of_decide_eq_true (by kernel_rfl)) k1 bel lt1) trodAll_mk0)), rfl, bel.frame _, fun h => by cases h⟩

theorem over : Rows.trackOwnRow.holds Try.pinned (OpenSpec.ofChange Rows.trackOwnSpec) :=
  OpenClaim.holds_of_wide 9 Try.f9 rfl rfl rfl rfl rfl rfl rfl ⟨rfl, rfl, rfl, rfl, rfl⟩ rfl rfl rfl rfl rfl (by kernel_rfl) Try.func9 (by kernel_rfl)
    (of_decide_eq_true (by kernel_rfl)) (by unfold Func.isWrapper; first | (rw [if_pos (by decide +kernel)]; kernel_rfl) | (rw [if_neg (by decide +kernel)]; exact ⟨rfl, rfl⟩))
    (fun os started H enc _ => lifted os started H enc)

theorem proved : Rows.TrackOwnSaid := over
#print axioms proved
end Go.Proofs.Ytelfihgkbbaifaa.trackOwn
