/- A region that draws its order: pure operations, loads, a chain, then loads again (guarded ones), a chain again, quiet ones, a chain. -/
import Derived.Test.YtelfihgkbbaifaaTail3
namespace Go.Proofs.Ytelfihgkbbaifaa
open Go.RowKit
def orderB4 (md : Region.Mode) (ops : Array Oper) (ps ls ts ls2 ts2 hs ts3 : List Nat) : Bool :=
  Region.noSelect ops && waitB md ops hs ts3 && rowB md ops ts3 && hs.all (fun i => decide (i < ops.size)) && hs.all (fun i => !ts3.contains i) &&
    takesB md ops (fun d => closedB md ops d && takesB md ops (tailK md ops (fun d => closedB md ops d && takesB md ops (tailK md ops (fun d' => stateB md ops hs ts3 d' && takesB md ops (tailB md ops ts3) hs d') ts2) ls2 d) ts) ls d) ps (Array.replicate ops.size false)
theorem wp_region_order4 {P : Program} {id : Nat} {Q : Exit → Act → World → Prop} {a : Act} {w : World} {l : List Oper} (C : World → Prop) (ps ls ts ls2 ts2 hs ts3 : List Nat) (hm : P.follows .mixedOrders = true)
    (hB : (orderB4 .any l.toArray ps ls ts ls2 ts2 hs ts3 && decide (ps.length + (ls.length + (ts.length + (ls2.length + (ts2.length + (hs.length + (ts3 ++ []).length))))) = l.length)) = true) (hC : C w.drew)
    (hQ : ∀ c a d v w, Q (.panic c) (Act.put a d v) w → Q (.panic c) a w)
    (h : wpPure P l.toArray (fun a0 => wpLoads P l.toArray C (fun a1 => wpKeep P l.toArray Q C (fun a2 w2 => C w2 ∧ wpLoads P l.toArray C (fun a3 => wpKeep P l.toArray Q C (fun a4 w4 => ∃ E : World → Prop, (∀ w, E w → C w) ∧ E w4 ∧
      wpQuiet P l.toArray E (fun a5 => ∀ w', E w' → wpKeep P l.toArray Q C (fun a6 w6 => wpList P l.toArray Q (pick l []) a6 w6) (pick l ts3) a5 w') (pick l hs) a4) (pick l ts2) a3 w2) (pick l ls2) a2) (pick l ts) a1 w.drew) (pick l ls) a0) (pick l ps) a) : (Code.region id l.toArray true).wp P Q a w := by
  simp only [orderB4, Bool.and_eq_true, decide_eq_true_eq] at hB
  obtain ⟨⟨⟨⟨⟨⟨hsel, hw⟩, hrow⟩, hlt⟩, hdis⟩, htk⟩, hlen⟩ := hB
  have hlt' : ∀ i ∈ hs, i < l.toArray.size := fun i hi => by simpa using List.all_eq_true.1 hlt i hi
  have hdis' : ∀ i ∈ hs, i ∉ ts3 := fun i hi ht => by
    have := List.all_eq_true.1 hdis i hi
    have hc : ts3.contains i = true := by simpa using ht
    rw [hc] at this
    cases this
  refine wp_region_any hm ?_
  have H := wpAny_of_pure (P := P) (md := .any) (l := l) rfl hsel hQ (g := ls.length + (ts.length + (ls2.length + (ts2.length + (hs.length + (ts3 ++ []).length))))) (w := w.drew)
    (k := fun d => closedB .any l.toArray d && takesB .any l.toArray (tailK .any l.toArray (fun d => closedB .any l.toArray d && takesB .any l.toArray (tailK .any l.toArray (fun d' => stateB .any l.toArray hs ts3 d' && takesB .any l.toArray (tailB .any l.toArray ts3) hs d') ts2) ls2 d) ts) ls d)
    (K := fun a0 => wpLoads P l.toArray C (fun a1 => wpKeep P l.toArray Q C (fun a2 w2 => C w2 ∧ wpLoads P l.toArray C (fun a3 => wpKeep P l.toArray Q C (fun a4 w4 => ∃ E : World → Prop, (∀ w, E w → C w) ∧ E w4 ∧
      wpQuiet P l.toArray E (fun a5 => ∀ w', E w' → wpKeep P l.toArray Q C (fun a6 w6 => wpList P l.toArray Q (pick l []) a6 w6) (pick l ts3) a5 w') (pick l hs) a4) (pick l ts2) a3 w2) (pick l ls2) a2) (pick l ts) a1 w.drew) (pick l ls) a0)
    (fun d a0 hk h0 => by
      simp only [Bool.and_eq_true] at hk
      refine wpAny_of_wpAnyW (C := C) (us := []) _ _ _ _ ?_
      refine wpAnyW_of_loads (md := .any) (l := l) rfl hsel hQ hC (fun d' a1 hk' h1 => ?_) ls d a0 (by intro i _ j hj; cases hj) (closedB_spec hk.1) hk.2 h0
      refine wpAnyW_of_tailK (md := .any) (l := l) rfl (fun d2 a2 w2 hk2 h2 => ?_) ts d' a1 _ hk' h1
      simp only [Bool.and_eq_true] at hk2
      refine wpAnyW_of_loads (md := .any) (l := l) rfl hsel hQ h2.1 (fun d3 a3 hk3 h3 => ?_) ls2 d2 a2 (by intro i _ j hj; cases hj) (closedB_spec hk2.1) hk2.2 h2.2
      refine wpAnyW_of_tailK (md := .any) (l := l) rfl (fun d4 a4 w4 hk4 h4 => ?_) ts2 d3 a3 _ hk3 h3
      simp only [Bool.and_eq_true] at hk4
      obtain ⟨E, hEC, hE, h4⟩ := h4
      have H1 := headAny_lex (P := P) (C := E) (md := .any) (l := l) rfl hsel hw hrow hlt' hs d4 a4 (fun i hi => hi) (stateB_spec hk4.1) hk4.2 hdis' h4
      exact wpAnyW_of_headAny2 (C := C) hEC (Q' := Q) (g := (ts3 ++ []).length) (fun d' a2 w' hw' hL => wpAnyW_of_tail (l := l) (us := []) rfl ts3 d' a2 w' (by rw [List.append_nil]; exact hL.1) (hL.2 w' hw')) _ _ _ _ hE H1)
    ps (Array.replicate l.toArray.size false) a htk h
  rw [hlen] at H
  simpa using H
end Go.Proofs.Ytelfihgkbbaifaa
