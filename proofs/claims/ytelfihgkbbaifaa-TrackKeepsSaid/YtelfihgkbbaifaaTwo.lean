/- A region that draws its order and whose last two free operations come up either way: after the pure ones and the loads, t1 t2 or t2 t1, then us. -/
import Derived.Test.YtelfihgkbbaifaaTail
namespace Go.Proofs.Ytelfihgkbbaifaa
open Go.RowKit
section
variable {P : Program} {ops : Array Oper} {md : Region.Mode} {C : World → Prop}

def twoB (md : Region.Mode) (ops : Array Oper) (t1 t2 : Nat) (us : List Nat) (d : Array Bool) : Bool :=
  decide (Region.ready md ops d = [t1, t2]) && tailB md ops (t2 :: us) (d.setIfInBounds t1 true) && tailB md ops (t1 :: us) (d.setIfInBounds t2 true)
def orderTwoB (md : Region.Mode) (ops : Array Oper) (ps ls : List Nat) (t1 t2 : Nat) (us : List Nat) : Bool :=
  Region.noSelect ops && us.all (fun j => ls.all fun i => reachB md ops ops.size j i) &&
    takesB md ops (fun d => closedB md ops d && takesB md ops (twoB md ops t1 t2 us) ls d) ps (Array.replicate ops.size false)

theorem wpOp_of_keep {l : List Oper} (hl : ops = l.toArray) {Q' : Exit → Act → World → Prop} {us : List Nat} {i f : Nat} {rest : List Nat} {R : Act → World → Prop} {d : Array Bool} {a : Act} {w : World}
    (hr : i ∈ Region.ready md ops d) (h : wpKeep P ops Q' C R (pick l (i :: rest)) a w) (hR : ∀ a' w', wpKeep P ops Q' C R (pick l rest) a' w' → wpAnyW P md ops Q' C us f (d.setIfInBounds i true) a' w') :
    wpOp P ops Q' i (fun a' w' => (i ∉ us → C w') ∧ wpAnyW P md ops Q' C us f (d.setIfInBounds i true) a' w') a w := by
  obtain ⟨_, oi, hoi, _⟩ := mem_ready.1 hr
  have hli : l[i]? = some oi := by rw [hl] at hoi; simpa using hoi
  have hp : pick l (i :: rest) = oi :: pick l rest := by simp [pick, hli]
  rw [hp] at h
  unfold wpKeep at h
  unfold wpOp
  simp only [hoi]
  split
  · rename_i hwt
    rw [if_pos hwt] at h
    have hw : wpOp P ops Q' i (fun a' w' => C w' ∧ wpKeep P ops Q' C R (pick l rest) a' w') a w := by
      unfold wpOp; simp only [hoi]; rw [if_pos hwt]; exact .inl h
    have := wpOp_mono (fun a' w' (h' : C w' ∧ wpKeep P ops Q' C R (pick l rest) a' w') => (⟨fun _ => h'.1, hR a' w' h'.2⟩ : (i ∉ us → C w') ∧ wpAnyW P md ops Q' C us f (d.setIfInBounds i true) a' w')) hw
    unfold wpOp at this
    simp only [hoi] at this
    rw [if_pos hwt] at this
    exact this
  · rename_i hwt
    rw [if_neg hwt] at h
    exact ⟨fun _ => h.1, hR _ _ h.2⟩
theorem wpAnyW_of_two {l : List Oper} (hl : ops = l.toArray) {Q' : Exit → Act → World → Prop} {t1 t2 : Nat} {us : List Nat} {d : Array Bool} {a : Act} {w : World} (hB : twoB md ops t1 t2 us d = true)
    (h1 : wpKeep P ops Q' C (fun a' w' => wpList P ops Q' (pick l us) a' w') (pick l [t1, t2]) a w) (h2 : wpKeep P ops Q' C (fun a' w' => wpList P ops Q' (pick l us) a' w') (pick l [t2, t1]) a w) :
    wpAnyW P md ops Q' C us (t1 :: t2 :: us).length d a w := by
  simp only [twoB, Bool.and_eq_true, decide_eq_true_eq] at hB
  obtain ⟨⟨hr, ha⟩, hb⟩ := hB
  refine ⟨fun h0 => (by rw [hr] at h0; cases h0), fun i hi => ?_⟩
  have hi' : i = t1 ∨ i = t2 := by rw [hr] at hi; simpa using hi
  rcases hi' with rfl | rfl
  · exact wpOp_of_keep hl hi h1 (fun a' w' h => wpAnyW_of_tail hl [t2] _ a' w' ha h)
  · exact wpOp_of_keep hl hi h2 (fun a' w' h => wpAnyW_of_tail hl [t1] _ a' w' hb h)
end

theorem wp_region_two {P : Program} {id : Nat} {Q : Exit → Act → World → Prop} {a : Act} {w : World} {l : List Oper} (C : World → Prop) (ps ls : List Nat) (t1 t2 : Nat) (us : List Nat) (hm : P.follows .mixedOrders = true)
    (hB : (orderTwoB .any l.toArray ps ls t1 t2 us && decide (ps.length + (ls.length + (t1 :: t2 :: us).length) = l.length)) = true) (hC : C w.drew)
    (hQ : ∀ c a d v w, Q (.panic c) (Act.put a d v) w → Q (.panic c) a w)
    (h : wpPure P l.toArray (fun a0 => wpLoads P l.toArray C (fun a1 => wpKeep P l.toArray Q C (fun a3 w3 => wpList P l.toArray Q (pick l us) a3 w3) (pick l [t1, t2]) a1 w.drew ∧
      wpKeep P l.toArray Q C (fun a3 w3 => wpList P l.toArray Q (pick l us) a3 w3) (pick l [t2, t1]) a1 w.drew) (pick l ls) a0) (pick l ps) a) : (Code.region id l.toArray true).wp P Q a w := by
  simp only [orderTwoB, Bool.and_eq_true, decide_eq_true_eq] at hB
  obtain ⟨⟨⟨hsel, hre⟩, htk⟩, hlen⟩ := hB
  have hre' : ∀ i ∈ ls, ∀ j ∈ us, reachB .any l.toArray l.toArray.size j i = true := fun i hi j hj => List.all_eq_true.1 (List.all_eq_true.1 hre j hj) i hi
  refine wp_region_any hm ?_
  have H := wpAny_of_pure (P := P) (md := .any) (l := l) rfl hsel hQ (g := ls.length + (t1 :: t2 :: us).length) (w := w.drew)
    (k := fun d => closedB .any l.toArray d && takesB .any l.toArray (twoB .any l.toArray t1 t2 us) ls d)
    (K := fun a0 => wpLoads P l.toArray C (fun a1 => wpKeep P l.toArray Q C (fun a3 w3 => wpList P l.toArray Q (pick l us) a3 w3) (pick l [t1, t2]) a1 w.drew ∧
      wpKeep P l.toArray Q C (fun a3 w3 => wpList P l.toArray Q (pick l us) a3 w3) (pick l [t2, t1]) a1 w.drew) (pick l ls) a0)
    (fun d a0 hk h0 => by
      simp only [Bool.and_eq_true] at hk
      refine wpAny_of_wpAnyW (C := C) (us := us) _ _ _ _ ?_
      exact wpAnyW_of_loads (md := .any) (l := l) rfl hsel hQ hC (k := twoB .any l.toArray t1 t2 us) (fun d' a1 hk' h1 => wpAnyW_of_two rfl hk' h1.1 h1.2) ls d a0 hre' (closedB_spec hk.1) hk.2 h0)
    ps (Array.replicate l.toArray.size false) a htk h
  rw [hlen] at H
  simpa using H
end Go.Proofs.Ytelfihgkbbaifaa
