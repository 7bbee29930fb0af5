/- A region that draws its order: pure operations, loads, a chain that may turn the world within a class, then quiet ones in any order, then a chain again. -/
import Derived.Test.YtelfihgkbbaifaaTail
namespace Go.Proofs.Ytelfihgkbbaifaa
open Go.RowKit
section
variable {P : Program} {ops : Array Oper} {md : Region.Mode} {C : World → Prop}
def tailK (md : Region.Mode) (ops : Array Oper) (k : Array Bool → Bool) : List Nat → Array Bool → Bool
  | [], d => k d
  | t :: ts, d => decide (Region.ready md ops d = [t]) && tailK md ops k ts (d.setIfInBounds t true)
theorem wpAnyW_of_tailK {l : List Oper} (hl : ops = l.toArray) {Q' : Exit → Act → World → Prop} {us : List Nat} {g : Nat} {k : Array Bool → Bool} {R : Act → World → Prop}
    (hK : ∀ d a w, k d = true → R a w → wpAnyW P md ops Q' C us g d a w) : ∀ (ts : List Nat) (d : Array Bool) (a : Act) (w : World),
    tailK md ops k ts d = true → wpKeep P ops Q' C R (pick l ts) a w → wpAnyW P md ops Q' C us (ts.length + g) d a w := by
  intro ts
  induction ts with
  | nil => intro d a w hB h; rw [List.length_nil, Nat.zero_add]; exact hK _ _ _ hB h
  | cons t ts ih =>
    intro d a w hB h
    simp only [tailK, Bool.and_eq_true, decide_eq_true_eq] at hB
    rw [show (t :: ts).length + g = (ts.length + g) + 1 by simp; omega]
    refine ⟨fun h1 => (by rw [hB.1] at h1; cases h1), fun i hi => ?_⟩
    have hr' : t ∈ Region.ready md ops d := by rw [hB.1]; simp
    rw [hB.1] at hi
    obtain rfl : i = t := by simpa using hi
    obtain ⟨_, oi, hoi, _⟩ := mem_ready.1 hr'
    have hli : l[i]? = some oi := by rw [hl] at hoi; simpa using hoi
    have hp : pick l (i :: ts) = oi :: pick l ts := by simp [pick, hli]
    rw [hp] at h
    unfold wpKeep at h
    unfold wpOp
    simp only [hoi]
    split
    · rename_i hwt
      rw [if_pos hwt] at h
      have hw : wpOp P ops Q' i (fun a' w' => C w' ∧ wpKeep P ops Q' C R (pick l ts) a' w') a w := by
        unfold wpOp; simp only [hoi]; rw [if_pos hwt]; exact .inl h
      have := wpOp_mono (fun a' w' (h' : C w' ∧ wpKeep P ops Q' C R (pick l ts) a' w') => (⟨fun _ => h'.1, ih _ a' w' hB.2 h'.2⟩ : (i ∉ us → C w') ∧ wpAnyW P md ops Q' C us (ts.length + g) (d.setIfInBounds i true) a' w')) hw
      unfold wpOp at this
      simp only [hoi] at this
      rw [if_pos hwt] at this
      exact this
    · rename_i hwt
      rw [if_neg hwt] at h
      exact ⟨fun _ => h.1, ih _ _ _ hB.2 h.2⟩
def orderB3 (md : Region.Mode) (ops : Array Oper) (ps ls ts hs ts2 us : List Nat) : Bool :=
  Region.noSelect ops && waitB md ops hs (ts2 ++ us) && rowB md ops (ts2 ++ us) && hs.all (fun i => decide (i < ops.size)) && us.all (fun j => ls.all fun i => reachB md ops ops.size j i) && hs.all (fun i => !(ts2 ++ us).contains i) &&
    takesB md ops (fun d => closedB md ops d && takesB md ops (tailK md ops (fun d' => stateB md ops hs (ts2 ++ us) d' && takesB md ops (tailB md ops (ts2 ++ us)) hs d') ts) ls d) ps (Array.replicate ops.size false)
end
theorem wp_region_order3 {P : Program} {id : Nat} {Q : Exit → Act → World → Prop} {a : Act} {w : World} {l : List Oper} (C : World → Prop) (ps ls ts hs ts2 us : List Nat) (hm : P.follows .mixedOrders = true)
    (hB : (orderB3 .any l.toArray ps ls ts hs ts2 us && decide (ps.length + (ls.length + (ts.length + (hs.length + (ts2 ++ us).length))) = l.length)) = true) (hC : C w.drew)
    (hQ : ∀ c a d v w, Q (.panic c) (Act.put a d v) w → Q (.panic c) a w)
    (h : wpPure P l.toArray (fun a0 => wpLoads P l.toArray C (fun a1 => wpKeep P l.toArray Q C (fun a2 w2 => ∃ E : World → Prop, (∀ w, E w → C w) ∧ E w2 ∧
      wpQuiet P l.toArray E (fun a3 => ∀ w', E w' → wpKeep P l.toArray Q C (fun a4 w4 => wpList P l.toArray Q (pick l us) a4 w4) (pick l ts2) a3 w') (pick l hs) a2) (pick l ts) a1 w.drew) (pick l ls) a0) (pick l ps) a) : (Code.region id l.toArray true).wp P Q a w := by
  simp only [orderB3, Bool.and_eq_true, decide_eq_true_eq] at hB
  obtain ⟨⟨⟨⟨⟨⟨⟨hsel, hw⟩, hrow⟩, hlt⟩, hre⟩, hdis⟩, htk⟩, hlen⟩ := hB
  have hlt' : ∀ i ∈ hs, i < l.toArray.size := fun i hi => by simpa using List.all_eq_true.1 hlt i hi
  have hdis' : ∀ i ∈ hs, i ∉ ts2 ++ us := fun i hi ht => by
    have := List.all_eq_true.1 hdis i hi
    have hc : (ts2 ++ us).contains i = true := by simpa using ht
    rw [hc] at this
    cases this
  have hre' : ∀ i ∈ ls, ∀ j ∈ us, reachB .any l.toArray l.toArray.size j i = true := fun i hi j hj => List.all_eq_true.1 (List.all_eq_true.1 hre j hj) i hi
  refine wp_region_any hm ?_
  have H := wpAny_of_pure (P := P) (md := .any) (l := l) rfl hsel hQ (g := ls.length + (ts.length + (hs.length + (ts2 ++ us).length))) (w := w.drew)
    (k := fun d => closedB .any l.toArray d && takesB .any l.toArray (tailK .any l.toArray (fun d' => stateB .any l.toArray hs (ts2 ++ us) d' && takesB .any l.toArray (tailB .any l.toArray (ts2 ++ us)) hs d') ts) ls d)
    (K := fun a0 => wpLoads P l.toArray C (fun a1 => wpKeep P l.toArray Q C (fun a2 w2 => ∃ E : World → Prop, (∀ w, E w → C w) ∧ E w2 ∧
      wpQuiet P l.toArray E (fun a3 => ∀ w', E w' → wpKeep P l.toArray Q C (fun a4 w4 => wpList P l.toArray Q (pick l us) a4 w4) (pick l ts2) a3 w') (pick l hs) a2) (pick l ts) a1 w.drew) (pick l ls) a0)
    (fun d a0 hk h0 => by
      simp only [Bool.and_eq_true] at hk
      refine wpAny_of_wpAnyW (C := C) (us := us) _ _ _ _ ?_
      refine wpAnyW_of_loads (md := .any) (l := l) rfl hsel hQ hC (k := tailK .any l.toArray (fun d' => stateB .any l.toArray hs (ts2 ++ us) d' && takesB .any l.toArray (tailB .any l.toArray (ts2 ++ us)) hs d') ts)
        (K := fun a1 => wpKeep P l.toArray Q C (fun a2 w2 => ∃ E : World → Prop, (∀ w, E w → C w) ∧ E w2 ∧
          wpQuiet P l.toArray E (fun a3 => ∀ w', E w' → wpKeep P l.toArray Q C (fun a4 w4 => wpList P l.toArray Q (pick l us) a4 w4) (pick l ts2) a3 w') (pick l hs) a2) (pick l ts) a1 w.drew) (fun d' a1 hk' h1 => ?_) ls d a0 hre' (closedB_spec hk.1) hk.2 h0
      refine wpAnyW_of_tailK (md := .any) (l := l) rfl (g := hs.length + (ts2 ++ us).length) (fun d2 a2 w2 hk2 h2 => ?_) ts d' a1 _ hk' h1
      simp only [Bool.and_eq_true] at hk2
      obtain ⟨E, hEC, hE, h2⟩ := h2
      have H1 := headAny_lex (P := P) (C := E) (md := .any) (l := l) rfl hsel hw hrow hlt' hs d2 a2 (fun i hi => hi) (stateB_spec hk2.1) hk2.2 hdis' h2
      exact wpAnyW_of_headAny2 (C := C) hEC (Q' := Q) (g := (ts2 ++ us).length) (fun d' a2 w' hw' hL => wpAnyW_of_tail (l := l) rfl ts2 d' a2 w' hL.1 (hL.2 w' hw')) _ _ _ _ hE H1)
    ps (Array.replicate l.toArray.size false) a htk h
  rw [hlen] at H
  simpa using H
end Go.Proofs.Ytelfihgkbbaifaa
