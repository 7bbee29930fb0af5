/- A region that draws its order, with one operation that may stand anywhere in a chain. -/
import Derived.Test.YtfhpaehfihnjaaaGreatKitA
namespace Go.Proofs.YtfhpaehfihnjaaaGreat.D
open Go.RowKit
section
variable {P : Program} {ops : Array Oper} {md : Region.Mode} {C : World → Prop}
def floatB (md : Region.Mode) (ops : Array Oper) (k : Nat) (us : List Nat) : List Nat → Array Bool → Bool
  | [], d => tailB md ops (k :: us) d
  | t :: ts, d => (decide (Region.ready md ops d = [t, k]) || decide (Region.ready md ops d = [k, t])) && tailB md ops ((t :: ts) ++ us) (d.setIfInBounds k true) && floatB md ops k us ts (d.setIfInBounds t true)
def floatP (P : Program) (ops : Array Oper) (l : List Oper) (Q : Exit → Act → World → Prop) (C : World → Prop) (k : Nat) (us : List Nat) : List Nat → Act → World → Prop
  | [], a, w => wpKeep P ops Q C (fun a' w' => wpList P ops Q (pick l us) a' w') (pick l [k]) a w
  | t :: ts, a, w => wpKeep P ops Q C (fun a' w' => wpList P ops Q (pick l us) a' w') (pick l (k :: t :: ts)) a w ∧ wpKeep P ops Q C (fun a' w' => floatP P ops l Q C k us ts a' w') (pick l [t]) a w
theorem floatP_nil {l : List Oper} {Q : Exit → Act → World → Prop} {k : Nat} {us : List Nat} {a : Act} {w : World} (h : wpKeep P ops Q C (fun a' w' => wpList P ops Q (pick l us) a' w') (pick l [k]) a w) : floatP P ops l Q C k us [] a w := h
theorem floatP_cons {l : List Oper} {Q : Exit → Act → World → Prop} {k t : Nat} {us ts : List Nat} {a : Act} {w : World} (h1 : wpKeep P ops Q C (fun a' w' => wpList P ops Q (pick l us) a' w') (pick l (k :: t :: ts)) a w)
    (h2 : wpKeep P ops Q C (fun a' w' => floatP P ops l Q C k us ts a' w') (pick l [t]) a w) : floatP P ops l Q C k us (t :: ts) a w := ⟨h1, h2⟩
theorem wpAnyW_of_float {l : List Oper} (hl : ops = l.toArray) {Q' : Exit → Act → World → Prop} {k : Nat} {us : List Nat} : ∀ (ts : List Nat) (d : Array Bool) (a : Act) (w : World), floatB md ops k us ts d = true → floatP P ops l Q' C k us ts a w →
    wpAnyW P md ops Q' C us (ts.length + (k :: us).length) d a w := by
  intro ts
  induction ts with
  | nil =>
    intro d a w hB h
    have := wpAnyW_of_tail (C := C) hl [k] d a w hB h
    simpa using this
  | cons t ts ih =>
    intro d a w hB h
    simp only [floatB, Bool.and_eq_true, Bool.or_eq_true, decide_eq_true_eq] at hB
    obtain ⟨⟨hr, ha⟩, hb⟩ := hB
    have hn : (t :: ts).length + (k :: us).length = (ts.length + (k :: us).length) + 1 := by simp; omega
    rw [hn]
    refine ⟨fun h0 => (by rcases hr with hr | hr <;> (rw [hr] at h0; cases h0)), fun i hi => ?_⟩
    have hi' : i = t ∨ i = k := by
      rcases hr with hr | hr
      · rw [hr] at hi; simpa using hi
      · rw [hr] at hi; exact (show i = k ∨ i = t by simpa using hi).symm
    rcases hi' with rfl | rfl
    · exact wpOp_of_keep hl hi h.2 (fun a' w' hh => ih _ a' w' hb hh)
    · have hn2 : ts.length + (i :: us).length = ((t :: ts) ++ us).length := by simp; omega
      rw [hn2]
      exact wpOp_of_keep hl hi h.1 (fun a' w' hh => wpAnyW_of_tail hl (t :: ts) _ a' w' ha hh)
end
def orderFloatB (md : Region.Mode) (ops : Array Oper) (ps ls ts : List Nat) (k : Nat) (us : List Nat) : Bool :=
  Region.noSelect ops && us.all (fun j => ls.all fun i => reachB md ops ops.size j i) &&
    takesB md ops (fun d => closedB md ops d && takesB md ops (floatB md ops k us ts) ls d) ps (Array.replicate ops.size false)
theorem wp_region_float {P : Program} {id : Nat} {Q : Exit → Act → World → Prop} {a : Act} {w : World} {l : List Oper} (C : World → Prop) (ps ls ts : List Nat) (k : Nat) (us : List Nat) (hm : P.follows .mixedOrders = true)
    (hB : (orderFloatB .any l.toArray ps ls ts k us && decide (ps.length + (ls.length + (ts.length + (k :: us).length)) = l.length)) = true) (hC : C w.drew)
    (hQ : ∀ c a d v w, Q (.panic c) (Act.put a d v) w → Q (.panic c) a w)
    (h : wpPure P l.toArray (fun a0 => wpLoads P l.toArray C (fun a1 => floatP P l.toArray l Q C k us ts a1 w.drew) (pick l ls) a0) (pick l ps) a) : (Code.region id l.toArray true).wp P Q a w := by
  simp only [orderFloatB, Bool.and_eq_true, decide_eq_true_eq] at hB
  obtain ⟨⟨⟨hsel, hre⟩, htk⟩, hlen⟩ := hB
  have hre' : ∀ i ∈ ls, ∀ j ∈ us, reachB .any l.toArray l.toArray.size j i = true := fun i hi j hj => List.all_eq_true.1 (List.all_eq_true.1 hre j hj) i hi
  refine wp_region_any hm ?_
  have H := wpAny_of_pure (P := P) (md := .any) (l := l) rfl hsel hQ (g := ls.length + (ts.length + (k :: us).length)) (w := w.drew)
    (k := fun d => closedB .any l.toArray d && takesB .any l.toArray (floatB .any l.toArray k us ts) ls d)
    (K := fun a0 => wpLoads P l.toArray C (fun a1 => floatP P l.toArray l Q C k us ts a1 w.drew) (pick l ls) a0)
    (fun d a0 hk h0 => by
      simp only [Bool.and_eq_true] at hk
      refine wpAny_of_wpAnyW (C := C) (us := us) _ _ _ _ ?_
      exact wpAnyW_of_loads (md := .any) (l := l) rfl hsel hQ hC (k := floatB .any l.toArray k us ts) (fun d' a1 hk' h1 => wpAnyW_of_float rfl ts _ _ _ hk' h1) ls d a0 hre' (closedB_spec hk.1) hk.2 h0)
    ps (Array.replicate l.toArray.size false) a htk h
  rw [hlen] at H
  simpa using H
end Go.Proofs.YtfhpaehfihnjaaaGreat.D
