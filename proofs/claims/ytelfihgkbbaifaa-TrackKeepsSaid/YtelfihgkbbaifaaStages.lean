/- A region that draws its order, in stages: in each stage loads (or pure operations) in any order, then a chain. No function of the program is named here. -/
import Derived.Test.YtelfihgkbbaifaaTail4
namespace Go.Proofs.Ytelfihgkbbaifaa
open Go.RowKit
section
variable {P : Program} {ops : Array Oper} {md : Region.Mode} {C : World → Prop}
def stagesB (md : Region.Mode) (ops : Array Oper) (us : List Nat) : List (List Nat × List Nat) → Array Bool → Bool
  | [], d => tailB md ops us d
  | s :: r, d => closedB md ops d && takesB md ops (tailK md ops (stagesB md ops us r) s.2) s.1 d
def stagesN (us : List Nat) : List (List Nat × List Nat) → Nat
  | [] => us.length
  | s :: r => s.1.length + (s.2.length + stagesN us r)
def wpStages (P : Program) (ops : Array Oper) (l : List Oper) (Q : Exit → Act → World → Prop) (C : World → Prop) (us : List Nat) : List (List Nat × List Nat) → Act → World → Prop
  | [], a, w => wpList P ops Q (pick l us) a w
  | s :: r, a, w => C w ∧ wpLoads P ops C (fun a1 => wpKeep P ops Q C (fun a2 w2 => wpStages P ops l Q C us r a2 w2) (pick l s.2) a1 w) (pick l s.1) a
theorem wpStages_nil {l : List Oper} {Q : Exit → Act → World → Prop} {us : List Nat} {a : Act} {w : World} (h : wpList P ops Q (pick l us) a w) : wpStages P ops l Q C us [] a w := h
theorem wpStages_step {l : List Oper} {Q : Exit → Act → World → Prop} {us ls ts : List Nat} {r : List (List Nat × List Nat)} {a : Act} {w : World} (hC : C w)
    (h : wpLoads P ops C (fun a1 => wpKeep P ops Q C (fun a2 w2 => wpStages P ops l Q C us r a2 w2) (pick l ts) a1 w) (pick l ls) a) : wpStages P ops l Q C us ((ls, ts) :: r) a w := ⟨hC, h⟩
theorem wpAnyW_of_stages {l : List Oper} (hl : ops = l.toArray) (hsel : Region.noSelect ops = true) {Q' : Exit → Act → World → Prop} (hQ : ∀ c a d v w, Q' (.panic c) (Act.put a d v) w → Q' (.panic c) a w) {us : List Nat} : ∀ (st : List (List Nat × List Nat)) (d : Array Bool) (a : Act) (w : World),
    (∀ s ∈ st, ∀ i ∈ s.1, ∀ j ∈ us, reachB md ops ops.size j i = true) → stagesB md ops us st d = true → wpStages P ops l Q' C us st a w → wpAnyW P md ops Q' C us (stagesN us st) d a w := by
  intro st
  induction st with
  | nil => intro d a w _ hB h; exact wpAnyW_of_tail (C := C) hl [] d a w hB h
  | cons s r ih =>
    intro d a w hre hB h
    simp only [stagesB, Bool.and_eq_true] at hB
    refine wpAnyW_of_loads hl hsel hQ h.1 (fun d' a1 hk' h1 => ?_) s.1 d a (hre s (by simp)) (closedB_spec hB.1) hB.2 h.2
    exact wpAnyW_of_tailK hl (fun d2 a2 w2 hk2 h2 => ih d2 a2 w2 (fun s' hs' => hre s' (by simp [hs'])) hk2 h2) s.2 d' a1 _ hk' h1
end
def orderBS (md : Region.Mode) (ops : Array Oper) (ps : List Nat) (st : List (List Nat × List Nat)) (us : List Nat) : Bool :=
  Region.noSelect ops && st.all (fun s => us.all (fun j => s.1.all fun i => reachB md ops ops.size j i)) && takesB md ops (stagesB md ops us st) ps (Array.replicate ops.size false)
theorem wp_region_stages {P : Program} {id : Nat} {Q : Exit → Act → World → Prop} {a : Act} {w : World} {l : List Oper} (C : World → Prop) (ps : List Nat) (st : List (List Nat × List Nat)) (us : List Nat) (hm : P.follows .mixedOrders = true)
    (hB : (orderBS .any l.toArray ps st us && decide (ps.length + stagesN us st = l.length)) = true) (_hC : C w.drew)
    (hQ : ∀ c a d v w, Q (.panic c) (Act.put a d v) w → Q (.panic c) a w)
    (h : wpPure P l.toArray (fun a0 => wpStages P l.toArray l Q C us st a0 w.drew) (pick l ps) a) : (Code.region id l.toArray true).wp P Q a w := by
  simp only [orderBS, Bool.and_eq_true, decide_eq_true_eq] at hB
  obtain ⟨⟨⟨hsel, hre⟩, htk⟩, hlen⟩ := hB
  have hre' : ∀ s ∈ st, ∀ i ∈ s.1, ∀ j ∈ us, reachB .any l.toArray l.toArray.size j i = true := fun s hs i hi j hj => List.all_eq_true.1 (List.all_eq_true.1 (List.all_eq_true.1 hre s hs) j hj) i hi
  refine wp_region_any hm ?_
  have H := wpAny_of_pure (P := P) (md := .any) (l := l) rfl hsel hQ (g := stagesN us st) (w := w.drew)
    (k := stagesB .any l.toArray us st)
    (K := fun a0 => wpStages P l.toArray l Q C us st a0 w.drew)
    (fun d a0 hk h0 => wpAny_of_wpAnyW (C := C) (us := us) _ _ _ _ (wpAnyW_of_stages (md := .any) (l := l) rfl hsel hQ st d a0 w.drew hre' hk h0))
    ps (Array.replicate l.toArray.size false) a htk h
  rw [hlen] at H
  simpa using H
end Go.Proofs.Ytelfihgkbbaifaa
