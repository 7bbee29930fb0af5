/- A region that draws its order: pure operations, loads, a chain, then loads again (or pure ones), a chain again, and at the end stores. -/
import Derived.Test.YtelfihgkbbaifaaTail4
namespace Go.Proofs.Ytelfihgkbbaifaa
open Go.RowKit
def orderB5 (md : Region.Mode) (ops : Array Oper) (ps ls ts ls2 ts2 us : List Nat) : Bool :=
  Region.noSelect ops && us.all (fun j => ls.all fun i => reachB md ops ops.size j i) && us.all (fun j => ls2.all fun i => reachB md ops ops.size j i) &&
    takesB md ops (fun d => closedB md ops d && takesB md ops (tailK md ops (fun d => closedB md ops d && takesB md ops (tailB md ops (ts2 ++ us)) ls2 d) ts) ls d) ps (Array.replicate ops.size false)
theorem wp_region_order5 {P : Program} {id : Nat} {Q : Exit → Act → World → Prop} {a : Act} {w : World} {l : List Oper} (C : World → Prop) (ps ls ts ls2 ts2 us : List Nat) (hm : P.follows .mixedOrders = true)
    (hB : (orderB5 .any l.toArray ps ls ts ls2 ts2 us && decide (ps.length + (ls.length + (ts.length + (ls2.length + (ts2 ++ us).length))) = l.length)) = true) (hC : C w.drew)
    (hQ : ∀ c a d v w, Q (.panic c) (Act.put a d v) w → Q (.panic c) a w)
    (h : wpPure P l.toArray (fun a0 => wpLoads P l.toArray C (fun a1 => wpKeep P l.toArray Q C (fun a2 w2 => C w2 ∧ wpLoads P l.toArray C (fun a3 => wpKeep P l.toArray Q C (fun a4 w4 => wpList P l.toArray Q (pick l us) a4 w4) (pick l ts2) a3 w2)
      (pick l ls2) a2) (pick l ts) a1 w.drew) (pick l ls) a0) (pick l ps) a) : (Code.region id l.toArray true).wp P Q a w := by
  simp only [orderB5, Bool.and_eq_true, decide_eq_true_eq] at hB
  obtain ⟨⟨⟨⟨hsel, hre⟩, hre2⟩, htk⟩, hlen⟩ := hB
  have hre' : ∀ i ∈ ls, ∀ j ∈ us, reachB .any l.toArray l.toArray.size j i = true := fun i hi j hj => List.all_eq_true.1 (List.all_eq_true.1 hre j hj) i hi
  have hre2' : ∀ i ∈ ls2, ∀ j ∈ us, reachB .any l.toArray l.toArray.size j i = true := fun i hi j hj => List.all_eq_true.1 (List.all_eq_true.1 hre2 j hj) i hi
  refine wp_region_any hm ?_
  have H := wpAny_of_pure (P := P) (md := .any) (l := l) rfl hsel hQ (g := ls.length + (ts.length + (ls2.length + (ts2 ++ us).length))) (w := w.drew)
    (k := fun d => closedB .any l.toArray d && takesB .any l.toArray (tailK .any l.toArray (fun d => closedB .any l.toArray d && takesB .any l.toArray (tailB .any l.toArray (ts2 ++ us)) ls2 d) ts) ls d)
    (K := fun a0 => wpLoads P l.toArray C (fun a1 => wpKeep P l.toArray Q C (fun a2 w2 => C w2 ∧ wpLoads P l.toArray C (fun a3 => wpKeep P l.toArray Q C (fun a4 w4 => wpList P l.toArray Q (pick l us) a4 w4) (pick l ts2) a3 w2)
      (pick l ls2) a2) (pick l ts) a1 w.drew) (pick l ls) a0)
    (fun d a0 hk h0 => by
      simp only [Bool.and_eq_true] at hk
      refine wpAny_of_wpAnyW (C := C) (us := us) _ _ _ _ ?_
      refine wpAnyW_of_loads (md := .any) (l := l) rfl hsel hQ hC (fun d' a1 hk' h1 => ?_) ls d a0 hre' (closedB_spec hk.1) hk.2 h0
      refine wpAnyW_of_tailK (md := .any) (l := l) rfl (fun d2 a2 w2 hk2 h2 => ?_) ts d' a1 _ hk' h1
      simp only [Bool.and_eq_true] at hk2
      refine wpAnyW_of_loads (md := .any) (l := l) rfl hsel hQ h2.1 (fun d3 a3 hk3 h3 => ?_) ls2 d2 a2 hre2' (closedB_spec hk2.1) hk2.2 h2.2
      exact wpAnyW_of_tail (l := l) rfl ts2 d3 a3 w2 hk3 h3)
    ps (Array.replicate l.toArray.size false) a htk h
  rw [hlen] at H
  simpa using H
end Go.Proofs.Ytelfihgkbbaifaa
