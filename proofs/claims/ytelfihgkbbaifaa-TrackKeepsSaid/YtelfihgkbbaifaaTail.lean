/- A region that draws its order, walked once: first its pure operations (they look at no memory), then a head whose operations are quiet in a class of worlds, then a tail in one forced order. -/
import Derived.Test.YtelfihgkbbaifaaMem
import Derived.StillTail
import Derived.Deep.Quiet
import Derived.OrdersHeld
namespace Go.Proofs.Ytelfihgkbbaifaa
open Go.RowKit
section
variable {P : Program} {ops : Array Oper} {md : Region.Mode} {C : World → Prop}

/-- The Bools that the kernel reckons. -/
def takesB (md : Region.Mode) (ops : Array Oper) (k : Array Bool → Bool) : List Nat → Array Bool → Bool
  | [], d => k d
  | i :: is, d => (Region.ready md ops d).contains i && Region.free md ops d i && takesB md ops k is (d.setIfInBounds i true)
def tailB (md : Region.Mode) (ops : Array Oper) : List Nat → Array Bool → Bool
  | [], d => (Region.ready md ops d).isEmpty
  | t :: ts, d => decide (Region.ready md ops d = [t]) && tailB md ops ts (d.setIfInBounds t true)
def waitB (md : Region.Mode) (ops : Array Oper) (hs ts : List Nat) : Bool :=
  match ts with
  | [] => true
  | t0 :: _ => hs.all fun i => (t0 :: hs).any fun j => decide (i < j) && Region.waitsFor md ops j i
def rowB (md : Region.Mode) (ops : Array Oper) : List Nat → Bool
  | t :: t' :: r => Region.waitsFor md ops t' t && rowB md ops (t' :: r)
  | _ => true
/-- Number j comes behind number i, through others too. -/
def reachB (md : Region.Mode) (ops : Array Oper) : Nat → Nat → Nat → Bool
  | 0, _, _ => false
  | f + 1, j, i => match ops[j]? with
    | some o => o.after.any fun e => Region.binds md e && (e.on == i || reachB md ops f e.on i)
    | none => false
def stateB (md : Region.Mode) (ops : Array Oper) (hs ts : List Nat) (d : Array Bool) : Bool :=
  decide (d.size = ops.size) && (List.range ops.size).all (fun i => d.getD i false || hs.contains i || ts.contains i) && ts.all (fun t => !d.getD t true) &&
    (List.range ops.size).all (fun j => !d.getD j false || (match ops[j]? with | some o => o.after.all fun e => !Region.binds md e || d.getD e.on false | none => true))
def closedB (md : Region.Mode) (ops : Array Oper) (d : Array Bool) : Bool :=
  decide (d.size = ops.size) && (List.range ops.size).all (fun j => !d.getD j false || (match ops[j]? with | some o => o.after.all fun e => !Region.binds md e || d.getD e.on false | none => true))
def orderB (md : Region.Mode) (ops : Array Oper) (ps ls hs ts us : List Nat) : Bool :=
  Region.noSelect ops && waitB md ops hs (ts ++ us) && rowB md ops (ts ++ us) && hs.all (fun i => decide (i < ops.size)) && us.all (fun j => ls.all fun i => reachB md ops ops.size j i) && ls.all (fun i => !us.contains i) && hs.all (fun i => !us.contains i) && ts.all (fun i => !us.contains i) &&
    takesB md ops (fun d => closedB md ops d && takesB md ops (fun d' => stateB md ops hs (ts ++ us) d' && takesB md ops (tailB md ops (ts ++ us)) hs d') ls d) ps (Array.replicate ops.size false)

structure HInv (md : Region.Mode) (ops : Array Oper) (hs ts : List Nat) (d : Array Bool) : Prop where
  size : d.size = ops.size
  closed : ∀ j oj, ops[j]? = some oj → d.getD j false = true → ∀ e ∈ oj.after, Region.binds md e = true → d.getD e.on false = true
  tail : ∀ t ∈ ts, d.getD t true = false
  cover : ∀ i, i < ops.size → d.getD i false = false → i ∈ hs ∨ i ∈ ts
theorem HInv.set {hs ts : List Nat} {d : Array Bool} {i : Nat} (inv : HInv md ops hs ts d) (hi : i ∈ Region.ready md ops d) (hn : i ∉ ts) : HInv md ops hs ts (d.setIfInBounds i true) := by
  obtain ⟨_, oi, hoi, hall⟩ := mem_ready.1 hi
  refine ⟨by simp [inv.size], fun j oj hj hl e he hb => ?_, fun t ht => ?_, fun k hk hf => ?_⟩
  · by_cases hij : i = j
    · subst hij
      obtain rfl : oj = oi := Option.some.inj (hj.symm.trans hoi)
      exact getD_set_true (hall e he hb)
    · rw [getD_set_ne false hij] at hl
      exact getD_set_true (inv.closed j oj hj hl e he hb)
  · rw [getD_set_ne true (by rintro rfl; exact hn ht)]
    exact inv.tail t ht
  · by_cases hik : i = k
    · subst hik
      exfalso
      rw [Array.getD_eq_getD_getElem?, Array.getElem?_setIfInBounds_self_of_lt (by rw [inv.size]; exact hk)] at hf
      simp at hf
    · rw [getD_set_ne false hik] at hf
      exact inv.cover k hk hf
theorem rowB_spec : ∀ {ts : List Nat}, rowB md ops ts = true → ∀ t ∈ ts, (∃ r, ts = t :: r) ∨ ∃ t' ∈ ts, Region.waitsFor md ops t t' = true
  | [], _, t, h => by cases h
  | [x], _, t, h => by simp at h; subst h; exact .inl ⟨[], rfl⟩
  | x :: y :: r, hB, t, h => by
    simp only [rowB, Bool.and_eq_true] at hB
    rcases List.mem_cons.1 h with rfl | h
    · exact .inl ⟨_, rfl⟩
    · rcases rowB_spec hB.2 t h with ⟨r', hr⟩ | ⟨t', ht', hw⟩
      · injection hr with h1 _
        subst h1
        exact .inr ⟨x, by simp, hB.1⟩
      · exact .inr ⟨t', List.mem_cons_of_mem _ ht', hw⟩
/-- While an operation of the head is still to come no operation of the tail comes up. -/
theorem tail_later {hs ts : List Nat} {d : Array Bool} (hw : waitB md ops hs ts = true) (hr : rowB md ops ts = true) (hlt : ∀ i ∈ hs, i < ops.size) (inv : HInv md ops hs ts d) :
    ∀ (m i : Nat), ops.size - i = m → i ∈ hs → d.getD i true = false → ∀ t ∈ ts, t ∉ Region.ready md ops d := by
  intro m
  induction m using Nat.strongRecOn with
  | _ m ih =>
    intro i hm hi hun t ht hrt
    obtain ⟨_, ot, hot, hall⟩ := mem_ready.1 hrt
    rcases rowB_spec hr t ht with ⟨r, hts⟩ | ⟨t', ht', hwt⟩
    · rw [hts] at hw
      have h1 := List.all_eq_true.1 hw i hi
      obtain ⟨j, hj, hj2⟩ := List.any_eq_true.1 h1
      simp only [Bool.and_eq_true, decide_eq_true_eq] at hj2
      obtain ⟨oj, hoj, e, he, hb, hon⟩ := Region.waitsFor_spec hj2.2
      rcases List.mem_cons.1 hj with rfl | hjh
      · obtain rfl : oj = ot := Option.some.inj (hoj.symm.trans hot)
        have h2 := hall e he hb
        rw [hon, getD_both hun] at h2
        cases h2
      · cases hl : d.getD j false with
        | true =>
          have h2 := inv.closed j oj hoj hl e he hb
          rw [hon, getD_both hun] at h2
          cases h2
        | false => exact ih (ops.size - j) (by have := hlt j hjh; omega) j rfl hjh (getD_in (by rw [inv.size]; exact hlt j hjh) hl) t ht hrt
    · obtain ⟨oj, hoj, e, he, hb, hon⟩ := Region.waitsFor_spec hwt
      obtain rfl : oj = ot := Option.some.inj (hoj.symm.trans hot)
      have h2 := hall e he hb
      rw [hon, getD_both (inv.tail t' ht')] at h2
      cases h2

/-- So many operations of the head come up, whichever, each quiet; then L. -/
def headAny (P : Program) (md : Region.Mode) (ops : Array Oper) (C : World → Prop) (ts : List Nat) (L : Array Bool → Act → Prop) : Nat → Array Bool → Act → Prop
  | 0, d, a => L d a
  | f + 1, d, a => Region.ready md ops d ≠ [] ∧ ∀ i ∈ Region.ready md ops d, i ∉ ts ∧ qOp P ops C i (headAny P md ops C ts L f (d.setIfInBounds i true)) a
/-- Whatever order is picked from here on; behind every operation that is not of us the world is of the class. -/
def wpAnyW (P : Program) (md : Region.Mode) (ops : Array Oper) (Q : Exit → Act → World → Prop) (C : World → Prop) (us : List Nat) : Nat → Array Bool → Act → World → Prop
  | 0, d, a, w => Region.ready md ops d = [] ∧ Q .normal a w
  | f + 1, d, a, w => (Region.ready md ops d = [] → Q .normal a w) ∧ ∀ i ∈ Region.ready md ops d, wpOp P ops Q i (fun a' w' => (i ∉ us → C w') ∧ wpAnyW P md ops Q C us f (d.setIfInBounds i true) a' w') a w
theorem wpAny_of_wpAnyW {Q : Exit → Act → World → Prop} {us : List Nat} : ∀ (f : Nat) (d : Array Bool) (a : Act) (w : World), wpAnyW P md ops Q C us f d a w → wpAny P md ops Q f d a w := by
  intro f
  induction f with
  | zero => intro d a w h; exact h
  | succ f ih => intro d a w h; exact ⟨h.1, fun i hi => wpOp_mono (fun a' w' h' => ih _ _ _ h'.2) (h.2 i hi)⟩
structure Closed (md : Region.Mode) (ops : Array Oper) (d : Array Bool) : Prop where
  size : d.size = ops.size
  closed : ∀ j oj, ops[j]? = some oj → d.getD j false = true → ∀ e ∈ oj.after, Region.binds md e = true → d.getD e.on false = true
theorem Closed.set {d : Array Bool} {i : Nat} (inv : Closed md ops d) (hi : i ∈ Region.ready md ops d) : Closed md ops (d.setIfInBounds i true) := by
  obtain ⟨_, oi, hoi, hall⟩ := mem_ready.1 hi
  refine ⟨by simp [inv.size], fun j oj hj hl e he hb => ?_⟩
  by_cases hij : i = j
  · subst hij
    obtain rfl : oj = oi := Option.some.inj (hj.symm.trans hoi)
    exact getD_set_true (hall e he hb)
  · rw [getD_set_ne false hij] at hl
    exact getD_set_true (inv.closed j oj hj hl e he hb)
theorem reach_done {d : Array Bool} (inv : Closed md ops d) : ∀ (f j i : Nat) (oj : Oper), ops[j]? = some oj → (∀ e ∈ oj.after, Region.binds md e = true → d.getD e.on false = true) → reachB md ops f j i = true → d.getD i false = true := by
  intro f
  induction f with
  | zero => intro j i oj _ _ h; cases h
  | succ f ih =>
    intro j i oj hj hall h
    simp only [reachB, hj] at h
    obtain ⟨e, he, h2⟩ := Array.any_eq_true'.1 h
    simp only [Bool.and_eq_true, Bool.or_eq_true, beq_iff_eq] at h2
    have hd := hall e he h2.1
    rcases h2.2 with h3 | h3
    · rw [← h3]; exact hd
    · cases ho : ops[e.on]? with
      | none => cases f with
        | zero => cases h3
        | succ f => simp [reachB, ho] at h3
      | some o' => exact ih e.on i o' ho (fun e' he' hb' => inv.closed _ _ ho hd e' he' hb') h3
/-- A load that may come up may be taken first: its value is the same in every world of the class. -/
theorem wpAnyW_first {Q : Exit → Act → World → Prop} {us : List Nat} {i : Nat} {oi : Oper} {v : Value} (hi : ops[i]? = some oi) (hsel : ∀ (j : Nat) (o : Oper) cs b, ops[j]? = some o → o.op ≠ .select cs b)
    (hQ : ∀ c a w, Q (.panic c) (a.put oi.dst v) w → Q (.panic c) a w) (hus : ∀ j ∈ us, reachB md ops ops.size j i = true) :
    ∀ (f : Nat) (d : Array Bool) (a : Act) (w : World), Closed md ops d →
      (∀ j oj, ops[j]? = some oj → j ≠ i → d.getD j true = false → (∀ e ∈ oj.after, Region.binds md e = true → e.on ≠ i) → oi.apart ops oj = true) →
      i ∈ Region.ready md ops d → YieldsIf P ops C oi v a → C w → wpAnyW P md ops Q C us f (d.setIfInBounds i true) (a.put oi.dst v) w → wpAnyW P md ops Q C us (f + 1) d a w := by
  intro f
  induction f with
  | zero =>
    intro d a w _ _ hr hy hC H
    refine ⟨fun h => (by rw [h] at hr; cases hr), fun j hj => ?_⟩
    by_cases hji : j = i
    · subst hji; exact hy.wpOp hi hC ⟨fun _ => hC, H⟩
    · have := ready_mono hj hji
      rw [H.1] at this
      cases this
  | succ f ih =>
    intro d a w inv hfree hr hy hC H
    refine ⟨fun h => (by rw [h] at hr; cases hr), fun j hj => ?_⟩
    by_cases hji : j = i
    · subst hji; exact hy.wpOp hi hC ⟨fun _ => hC, H⟩
    · have h1 := H.2 j (ready_mono hj hji)
      obtain ⟨hjun, oj, hoj, hall⟩ := mem_ready.1 hj
      have hun := (mem_ready.1 hr).1
      have hnot : ∀ e ∈ oj.after, Region.binds md e = true → e.on ≠ i := by
        intro e he hb heq
        have h1 := hall e he hb
        rw [heq, getD_both hun] at h1
        cases h1
      have hjus : j ∉ us := fun hju => by
        have := reach_done inv _ j i oj hoj hall (hus j hju)
        rw [getD_both hun] at this
        cases this
      have h2 := wpOp_putIf hoj (hfree j oj hoj hji hjun hnot) (fun cs b => hsel i oi cs b hi) (fun cs b => hsel j oj cs b hoj) hQ hy h1
      refine wpOp_mono (fun a' w' h3 => ⟨fun _ => h3.2.1 hjus, ih (d.setIfInBounds j true) a' w' (inv.set hj) ?_ (ready_mono hr (Ne.symm hji)) h3.1 (h3.2.1 hjus) ?_⟩) h2
      · intro k ok hk hki hun' hno
        refine hfree k ok hk hki ?_ hno
        by_cases hjk : j = k
        · subst hjk; exact hjun
        · rw [getD_set_ne true hjk] at hun'; exact hun'
      · rw [Array.setIfInBounds_comm _ _ hji]
        exact h3.2.2
theorem wpAnyW_of_headAny {ts us : List Nat} {g : Nat} {L : Array Bool → Act → Prop} {Q' : Exit → Act → World → Prop} (hL : ∀ d a w, C w → L d a → wpAnyW P md ops Q' C us g d a w) :
    ∀ (f : Nat) (d : Array Bool) (a : Act) (w : World), C w → headAny P md ops C ts L f d a → wpAnyW P md ops Q' C us (f + g) d a w := by
  intro f
  induction f with
  | zero => intro d a w hw h; rw [Nat.zero_add]; exact hL _ _ _ hw h
  | succ f ih =>
    intro d a w hw h
    rw [show f + 1 + g = (f + g) + 1 by omega]
    exact ⟨fun h0 => absurd h0 h.1, fun i hi => wpOp_of_qOp hw (fun a' w' hw' h' => ⟨fun _ => hw', ih _ _ _ hw' h'⟩) (h.2 i hi).2⟩
/-- .. the head within a narrower class. -/
theorem wpAnyW_of_headAny2 {D : World → Prop} (hDC : ∀ w, D w → C w) {ts us : List Nat} {g : Nat} {L : Array Bool → Act → Prop} {Q' : Exit → Act → World → Prop} (hL : ∀ d a w, D w → L d a → wpAnyW P md ops Q' C us g d a w) :
    ∀ (f : Nat) (d : Array Bool) (a : Act) (w : World), D w → headAny P md ops D ts L f d a → wpAnyW P md ops Q' C us (f + g) d a w := by
  intro f
  induction f with
  | zero => intro d a w hw h; rw [Nat.zero_add]; exact hL _ _ _ hw h
  | succ f ih =>
    intro d a w hw h
    rw [show f + 1 + g = (f + g) + 1 by omega]
    exact ⟨fun h0 => absurd h0 h.1, fun i hi => wpOp_of_qOp hw (fun a' w' hw' h' => ⟨fun _ => hDC _ hw', ih _ _ _ hw' h'⟩) (h.2 i hi).2⟩
theorem headAny_first {hs ts : List Nat} {i : Nat} {oi : Oper} {v : Value} {L : Array Bool → Act → Prop} (hi : ops[i]? = some oi) (hsel : ∀ (j : Nat) (o : Oper) cs b, ops[j]? = some o → o.op ≠ .select cs b)
    (hw : waitB md ops hs ts = true) (hrow : rowB md ops ts = true) (hlt : ∀ i ∈ hs, i < ops.size) (hin : i ∈ hs) (hend : ∀ d a, L d a → ∀ j ∈ Region.ready md ops d, j ∈ ts) :
    ∀ (f : Nat) (d : Array Bool) (a : Act), HInv md ops hs ts d →
      (∀ j oj, ops[j]? = some oj → j ≠ i → d.getD j true = false → (∀ e ∈ oj.after, Region.binds md e = true → e.on ≠ i) → oi.apart ops oj = true) →
      i ∈ Region.ready md ops d → YieldsIn P ops C oi v a → headAny P md ops C ts L f (d.setIfInBounds i true) (a.put oi.dst v) → headAny P md ops C ts L (f + 1) d a := by
  intro f
  induction f with
  | zero =>
    intro d a inv _ hr hy H
    have hun := (mem_ready.1 hr).1
    refine ⟨fun h => (by rw [h] at hr; cases hr), fun j hj => ?_⟩
    have hjn : j ∉ ts := fun ht => tail_later hw hrow hlt inv _ i rfl hin hun j ht hj
    refine ⟨hjn, ?_⟩
    by_cases hji : j = i
    · subst hji; exact hy.qOp hi H
    · exact absurd (hend _ _ H j (ready_mono hj hji)) hjn
  | succ f ih =>
    intro d a inv hfree hr hy H
    have hun := (mem_ready.1 hr).1
    refine ⟨fun h => (by rw [h] at hr; cases hr), fun j hj => ?_⟩
    have hjn : j ∉ ts := fun ht => tail_later hw hrow hlt inv _ i rfl hin hun j ht hj
    refine ⟨hjn, ?_⟩
    by_cases hji : j = i
    · subst hji; exact hy.qOp hi H
    · have h1 := (H.2 j (ready_mono hj hji)).2
      obtain ⟨hjun, oj, hoj, hall⟩ := mem_ready.1 hj
      have hnot : ∀ e ∈ oj.after, Region.binds md e = true → e.on ≠ i := by
        intro e he hb heq
        have h1 := hall e he hb
        rw [heq, getD_both hun] at h1
        cases h1
      have h2 := qOp_put hoj (hfree j oj hoj hji hjun hnot) (fun cs b => hsel i oi cs b hi) (fun cs b => hsel j oj cs b hoj) hy h1
      refine qOp_mono (fun a' h3 => ih (d.setIfInBounds j true) a' (inv.set hj hjn) ?_ (ready_mono hr (Ne.symm hji)) h3.1 ?_) h2
      · intro k ok hk hki hun' hno
        refine hfree k ok hk hki ?_ hno
        by_cases hjk : j = k
        · subst hjk; exact hjun
        · rw [getD_set_ne true hjk] at hun'; exact hun'
      · rw [Array.setIfInBounds_comm _ _ hji]
        exact h3.2

def pick (l : List Oper) (is : List Nat) : List Oper := is.filterMap fun i => l[i]?
theorem tailB_ready : ∀ {ts : List Nat} {d : Array Bool}, tailB md ops ts d = true → ∀ j ∈ Region.ready md ops d, j ∈ ts
  | [], d, h, j, hj => by simp only [tailB, List.isEmpty_iff] at h; rw [h] at hj; cases hj
  | t :: ts, d, h, j, hj => by
    simp only [tailB, Bool.and_eq_true, decide_eq_true_eq] at h
    rw [h.1] at hj
    have : j = t := by simpa using hj
    simp [this]
theorem headAny_lex {l : List Oper} {hs0 ts : List Nat} {Lq : Act → Prop} (hl : ops = l.toArray) (hsel : Region.noSelect ops = true) (hw : waitB md ops hs0 ts = true) (hrow : rowB md ops ts = true) (hlt : ∀ i ∈ hs0, i < ops.size) :
    ∀ (hs : List Nat) (d : Array Bool) (a : Act), (∀ i ∈ hs, i ∈ hs0) → HInv md ops hs0 ts d → takesB md ops (tailB md ops ts) hs d = true → (∀ i ∈ hs, i ∉ ts) →
      wpQuiet P ops C Lq (pick l hs) a → headAny P md ops C ts (fun d a' => tailB md ops ts d = true ∧ Lq a') hs.length d a := by
  intro hs
  induction hs with
  | nil => intro d a _ _ hB _ h; exact ⟨hB, h⟩
  | cons i hs ih =>
    intro d a hsub inv hB hnt h
    simp only [takesB, Bool.and_eq_true] at hB
    obtain ⟨⟨hr, hf⟩, hB'⟩ := hB
    have hr' : i ∈ Region.ready md ops d := by simpa using hr
    obtain ⟨_, oi, hoi, _⟩ := mem_ready.1 hr'
    have hli : l[i]? = some oi := by rw [hl] at hoi; simpa using hoi
    have hp : pick l (i :: hs) = oi :: pick l hs := by simp [pick, hli]
    rw [hp] at h
    obtain ⟨v, hy, hK⟩ := yieldsIn_of_qOp hoi (show qOp P ops C i (wpQuiet P ops C Lq (pick l hs)) a by unfold qOp; simp only [hoi]; exact h)
    exact headAny_first hoi (Region.noSelect_spec hsel) hw hrow hlt (hsub i (by simp)) (fun d a' hL => tailB_ready hL.1) hs.length d a inv (Region.free_spec hoi hf) hr' hy
      (ih _ _ (fun j hj => hsub j (by simp [hj])) (inv.set hr' (hnt i (by simp))) hB' (fun j hj => hnt j (by simp [hj])) hK)
/-- The tail: behind each operation of ts the class is shown anew; then those of us, as they stand. -/
def wpKeep (P : Program) (ops : Array Oper) (Q : Exit → Act → World → Prop) (C : World → Prop) (R : Act → World → Prop) : List Oper → Act → World → Prop
  | [], a, w => R a w
  | o :: rest, a, w => if Region.wanted o (yielded ops a.tmps) then o.wp P a w (fun a' w' => C w' ∧ wpKeep P ops Q C R rest a' w') Q else C w ∧ wpKeep P ops Q C R rest (a.put o.dst undef) w
theorem wpKeep_nil {Q : Exit → Act → World → Prop} {R : Act → World → Prop} {a : Act} {w : World} (h : R a w) : wpKeep P ops Q C R [] a w := h
theorem wpKeep_step {Q : Exit → Act → World → Prop} {R : Act → World → Prop} {a : Act} {w : World} {o : Oper} {rest : List Oper}
    (h : ∀ K : Act → World → Prop, (∀ a' w', C w' → wpKeep P ops Q C R rest a' w' → K a' w') → if Region.wanted o (yielded ops a.tmps) then o.wp P a w K Q else K (a.put o.dst undef) w) : wpKeep P ops Q C R (o :: rest) a w :=
  h _ (fun _ _ h1 h2 => ⟨h1, h2⟩)
theorem wpAnyW_of_us {l : List Oper} (hl : ops = l.toArray) {Q' : Exit → Act → World → Prop} {us0 : List Nat} : ∀ (us : List Nat) (d : Array Bool) (a : Act) (w : World), (∀ i ∈ us, i ∈ us0) →
    tailB md ops us d = true → wpList P ops Q' (pick l us) a w → wpAnyW P md ops Q' C us0 us.length d a w := by
  intro us
  induction us with
  | nil => intro d a w _ hB h; exact ⟨by simpa [tailB] using hB, h⟩
  | cons t ts ih =>
    intro d a w hsub hB h
    simp only [tailB, Bool.and_eq_true, decide_eq_true_eq] at hB
    refine ⟨fun h1 => (by rw [hB.1] at h1; cases h1), fun i hi => ?_⟩
    have hr' : t ∈ Region.ready md ops d := by rw [hB.1]; simp
    rw [hB.1] at hi
    obtain rfl : i = t := by simpa using hi
    obtain ⟨_, oi, hoi, _⟩ := mem_ready.1 hr'
    have hli : l[i]? = some oi := by rw [hl] at hoi; simpa using hoi
    have hp : pick l (i :: ts) = oi :: pick l ts := by simp [pick, hli]
    rw [hp] at h
    have hw : wpOp P ops Q' i (wpList P ops Q' (pick l ts)) a w := by unfold wpOp; simp only [hoi]; exact h
    exact wpOp_mono (fun a' w' h' => ⟨fun hn => absurd (hsub i (by simp)) hn, ih _ a' w' (fun j hj => hsub j (by simp [hj])) hB.2 h'⟩) hw
theorem wpAnyW_of_tail {l : List Oper} (hl : ops = l.toArray) {Q' : Exit → Act → World → Prop} {us : List Nat} : ∀ (ts : List Nat) (d : Array Bool) (a : Act) (w : World),
    tailB md ops (ts ++ us) d = true → wpKeep P ops Q' C (fun a' w' => wpList P ops Q' (pick l us) a' w') (pick l ts) a w → wpAnyW P md ops Q' C us (ts ++ us).length d a w := by
  intro ts
  induction ts with
  | nil => intro d a w hB h; exact wpAnyW_of_us hl us d a w (fun i hi => hi) hB h
  | cons t ts ih =>
    intro d a w hB h
    simp only [List.cons_append, tailB, Bool.and_eq_true, decide_eq_true_eq] at hB
    refine ⟨fun h1 => (by rw [hB.1] at h1; cases h1), fun i hi => ?_⟩
    have hr' : t ∈ Region.ready md ops d := by rw [hB.1]; simp
    rw [hB.1] at hi
    obtain rfl : i = t := by simpa using hi
    obtain ⟨_, oi, hoi, _⟩ := mem_ready.1 hr'
    have hli : l[i]? = some oi := by rw [hl] at hoi; simpa using hoi
    have hp : pick l (i :: ts) = oi :: pick l ts := by simp [pick, hli]
    rw [hp] at h
    unfold wpKeep at h
    unfold wpOp
    simp only [hoi]
    split
    · rename_i hwt
      rw [if_pos hwt] at h
      have hw : wpOp P ops Q' i (fun a' w' => C w' ∧ wpKeep P ops Q' C (fun a' w' => wpList P ops Q' (pick l us) a' w') (pick l ts) a' w') a w := by
        unfold wpOp; simp only [hoi]; rw [if_pos hwt]; exact .inl h
      have := wpOp_mono (fun a' w' (h' : C w' ∧ wpKeep P ops Q' C (fun a' w' => wpList P ops Q' (pick l us) a' w') (pick l ts) a' w') => (⟨fun _ => h'.1, ih _ a' w' hB.2 h'.2⟩ : (i ∉ us → C w') ∧ wpAnyW P md ops Q' C us (ts ++ us).length (d.setIfInBounds i true) a' w')) hw
      unfold wpOp at this
      simp only [hoi] at this
      rw [if_pos hwt] at this
      exact this
    · rename_i hwt
      rw [if_neg hwt] at h
      exact ⟨fun _ => h.1, ih _ _ _ hB.2 h.2⟩

/-- The loads, one at a time, in whatever world of the class. -/
def wpLoads (P : Program) (ops : Array Oper) (C : World → Prop) (K : Act → Prop) : List Oper → Act → Prop
  | [], a => K a
  | o :: rest, a => if Region.wanted o (yielded ops a.tmps) then ∃ v, (∀ w, C w → (execOp a.eval o).run P w = .ok (.value v) w) ∧ wpLoads P ops C K rest (a.put o.dst v) else wpLoads P ops C K rest (a.put o.dst undef)
theorem wpLoads_nil {K : Act → Prop} {a : Act} (h : K a) : wpLoads P ops C K [] a := h
theorem wpLoads_step {K : Act → Prop} {a : Act} {o : Oper} {rest : List Oper}
    (h : ∀ G : Act → Prop, (∀ a, wpLoads P ops C K rest a → G a) → if Region.wanted o (yielded ops a.tmps) then ∃ v, (∀ w, C w → (execOp a.eval o).run P w = .ok (.value v) w) ∧ G (a.put o.dst v) else G (a.put o.dst undef)) : wpLoads P ops C K (o :: rest) a :=
  h _ (fun _ h => h)
theorem wpAnyW_of_loads {l : List Oper} (hl : ops = l.toArray) (hsel : Region.noSelect ops = true) {Q' : Exit → Act → World → Prop} (hQ : ∀ c a d v w, Q' (.panic c) (Act.put a d v) w → Q' (.panic c) a w) {us : List Nat} {g : Nat} {k : Array Bool → Bool} {K : Act → Prop} {w : World} (hC : C w)
    (hK : ∀ d a, k d = true → K a → wpAnyW P md ops Q' C us g d a w) : ∀ (ls : List Nat) (d : Array Bool) (a : Act), (∀ i ∈ ls, ∀ j ∈ us, reachB md ops ops.size j i = true) → Closed md ops d → takesB md ops k ls d = true → wpLoads P ops C K (pick l ls) a → wpAnyW P md ops Q' C us (ls.length + g) d a w := by
  intro ls
  induction ls with
  | nil => intro d a _ _ hB h; rw [List.length_nil, Nat.zero_add]; exact hK _ _ hB h
  | cons i ls ih =>
    intro d a hus inv hB h
    simp only [takesB, Bool.and_eq_true] at hB
    obtain ⟨⟨hr, hf⟩, hB'⟩ := hB
    have hr' : i ∈ Region.ready md ops d := by simpa using hr
    obtain ⟨_, oi, hoi, _⟩ := mem_ready.1 hr'
    have hli : l[i]? = some oi := by rw [hl] at hoi; simpa using hoi
    have hp : pick l (i :: ls) = oi :: pick l ls := by simp [pick, hli]
    rw [hp] at h
    unfold wpLoads at h
    rw [show (i :: ls).length + g = (ls.length + g) + 1 by simp; omega]
    have hus' : ∀ i ∈ ls, ∀ j ∈ us, reachB md ops ops.size j i = true := fun k hk => hus k (by simp [hk])
    split at h
    · rename_i hwt
      obtain ⟨v, hv, h'⟩ := h
      exact wpAnyW_first hoi (Region.noSelect_spec hsel) (fun c a w => hQ c a _ _ w) (hus i (by simp)) _ _ _ _ inv (Region.free_spec hoi hf) hr' (.inl ⟨hwt, hv⟩) hC (ih _ _ hus' (inv.set hr') hB' h')
    · rename_i hwt
      exact wpAnyW_first hoi (Region.noSelect_spec hsel) (fun c a w => hQ c a _ _ w) (hus i (by simp)) _ _ _ _ inv (Region.free_spec hoi hf) hr' (.inr ⟨by simpa using hwt, rfl⟩) hC (ih _ _ hus' (inv.set hr') hB' h)

/-- The pure operations, one at a time. -/
def wpPure (P : Program) (ops : Array Oper) (K : Act → Prop) : List Oper → Act → Prop
  | [], a => K a
  | o :: rest, a => if Region.wanted o (yielded ops a.tmps) then ∃ v, (∀ w, (execOp a.eval o).run P w = .ok (.value v) w) ∧ wpPure P ops K rest (a.put o.dst v) else wpPure P ops K rest (a.put o.dst undef)
theorem wpPure_nil {K : Act → Prop} {a : Act} (h : K a) : wpPure P ops K [] a := h
theorem wpPure_step {K : Act → Prop} {a : Act} {o : Oper} {rest : List Oper}
    (h : ∀ G : Act → Prop, (∀ a, wpPure P ops K rest a → G a) → if Region.wanted o (yielded ops a.tmps) then ∃ v, (∀ w, (execOp a.eval o).run P w = .ok (.value v) w) ∧ G (a.put o.dst v) else G (a.put o.dst undef)) : wpPure P ops K (o :: rest) a :=
  h _ (fun _ h => h)
theorem wpAny_of_pure {l : List Oper} (hl : ops = l.toArray) (hsel : Region.noSelect ops = true) {Q' : Exit → Act → World → Prop} (hQ : ∀ c a d v w, Q' (.panic c) (Act.put a d v) w → Q' (.panic c) a w) {g : Nat} {k : Array Bool → Bool} {K : Act → Prop} {w : World}
    (hK : ∀ d a, k d = true → K a → wpAny P md ops Q' g d a w) : ∀ (ps : List Nat) (d : Array Bool) (a : Act), takesB md ops k ps d = true → wpPure P ops K (pick l ps) a → wpAny P md ops Q' (ps.length + g) d a w := by
  intro ps
  induction ps with
  | nil => intro d a hB h; rw [List.length_nil, Nat.zero_add]; exact hK _ _ hB h
  | cons i ps ih =>
    intro d a hB h
    simp only [takesB, Bool.and_eq_true] at hB
    obtain ⟨⟨hr, hf⟩, hB'⟩ := hB
    have hr' : i ∈ Region.ready md ops d := by simpa using hr
    obtain ⟨_, oi, hoi, _⟩ := mem_ready.1 hr'
    have hli : l[i]? = some oi := by rw [hl] at hoi; simpa using hoi
    have hp : pick l (i :: ps) = oi :: pick l ps := by simp [pick, hli]
    rw [hp] at h
    unfold wpPure at h
    rw [show (i :: ps).length + g = (ps.length + g) + 1 by simp; omega]
    split at h
    · rename_i hwt
      obtain ⟨v, hv, h'⟩ := h
      exact wpAny_first hoi (Region.noSelect_spec hsel) (fun c a w => hQ c a _ _ w) _ _ _ _ (Region.free_spec hoi hf) hr' (.inl ⟨hwt, hv⟩) (ih _ _ hB' h')
    · rename_i hwt
      exact wpAny_first hoi (Region.noSelect_spec hsel) (fun c a w => hQ c a _ _ w) _ _ _ _ (Region.free_spec hoi hf) hr' (.inr ⟨by simpa using hwt, rfl⟩) (ih _ _ hB' h)

theorem closedB_spec {d : Array Bool} (h : closedB md ops d = true) : Closed md ops d := by
  simp only [closedB, Bool.and_eq_true, decide_eq_true_eq, List.all_eq_true, List.mem_range, Bool.or_eq_true, Bool.not_eq_true'] at h
  refine ⟨h.1, fun j oj hj hl e he hb => ?_⟩
  have hjs : j < ops.size := (Array.getElem?_eq_some_iff.1 hj).1
  rcases h.2 j hjs with h | h
  · rw [hl] at h; cases h
  · rw [hj] at h
    have := (Array.all_eq_true'.1 h) e he
    simpa [hb] using this
theorem stateB_spec {hs ts : List Nat} {d : Array Bool} (h : stateB md ops hs ts d = true) : HInv md ops hs ts d := by
  simp only [stateB, Bool.and_eq_true, decide_eq_true_eq, List.all_eq_true, List.mem_range, Bool.or_eq_true, Bool.not_eq_true'] at h
  obtain ⟨⟨⟨h1, h2⟩, h3⟩, h4⟩ := h
  refine ⟨h1, fun j oj hj hl e he hb => ?_, fun t ht => h3 t ht, fun i hi hf => ?_⟩
  · have hjs : j < ops.size := (Array.getElem?_eq_some_iff.1 hj).1
    rcases h4 j hjs with h | h
    · rw [hl] at h; cases h
    · rw [hj] at h
      have := (Array.all_eq_true'.1 h) e he
      simpa [hb] using this
  · rcases h2 i hi with (h | h) | h
    · rw [hf] at h; cases h
    · exact .inl (by simpa using h)
    · exact .inr (by simpa using h)

end

/-- **A region that draws its order, walked once:** ps pure, ls loads, hs quiet, ts in one order and within the class, us in one order behind all loads. -/
theorem wp_region_order {P : Program} {id : Nat} {Q : Exit → Act → World → Prop} {a : Act} {w : World} {l : List Oper} (C : World → Prop) (ps ls hs ts us : List Nat) (hm : P.follows .mixedOrders = true)
    (hB : (orderB .any l.toArray ps ls hs ts us && decide (ps.length + (ls.length + (hs.length + (ts ++ us).length)) = l.length) && hs.all (fun i => !(ts ++ us).contains i)) = true) (hC : C w.drew)
    (hQ : ∀ c a d v w, Q (.panic c) (Act.put a d v) w → Q (.panic c) a w)
    (h : wpPure P l.toArray (fun a0 => wpLoads P l.toArray C (fun a1 => wpQuiet P l.toArray C (fun a2 => ∀ w', C w' → wpKeep P l.toArray Q C (fun a3 w3 => wpList P l.toArray Q (pick l us) a3 w3) (pick l ts) a2 w') (pick l hs) a1) (pick l ls) a0) (pick l ps) a) : (Code.region id l.toArray true).wp P Q a w := by
  simp only [orderB, Bool.and_eq_true, decide_eq_true_eq] at hB
  obtain ⟨⟨⟨⟨⟨⟨⟨⟨⟨⟨hsel, hw⟩, hrow⟩, hlt⟩, hre⟩, _⟩, _⟩, _⟩, htk⟩, hlen⟩, hdis⟩ := hB
  have hlt' : ∀ i ∈ hs, i < l.toArray.size := fun i hi => by simpa using List.all_eq_true.1 hlt i hi
  have hdis' : ∀ i ∈ hs, i ∉ ts ++ us := fun i hi ht => by
    have := List.all_eq_true.1 hdis i hi
    have hc : (ts ++ us).contains i = true := by simpa using ht
    rw [hc] at this
    cases this
  have hre' : ∀ i ∈ ls, ∀ j ∈ us, reachB .any l.toArray l.toArray.size j i = true := fun i hi j hj => List.all_eq_true.1 (List.all_eq_true.1 hre j hj) i hi
  refine wp_region_any hm ?_
  have H := wpAny_of_pure (P := P) (md := .any) (l := l) rfl hsel hQ (g := ls.length + (hs.length + (ts ++ us).length)) (w := w.drew)
    (k := fun d => closedB .any l.toArray d && takesB .any l.toArray (fun d' => stateB .any l.toArray hs (ts ++ us) d' && takesB .any l.toArray (tailB .any l.toArray (ts ++ us)) hs d') ls d)
    (K := fun a0 => wpLoads P l.toArray C (fun a1 => wpQuiet P l.toArray C (fun a2 => ∀ w', C w' → wpKeep P l.toArray Q C (fun a3 w3 => wpList P l.toArray Q (pick l us) a3 w3) (pick l ts) a2 w') (pick l hs) a1) (pick l ls) a0)
    (fun d a0 hk h0 => by
      simp only [Bool.and_eq_true] at hk
      refine wpAny_of_wpAnyW (C := C) (us := us) _ _ _ _ ?_
      refine wpAnyW_of_loads (md := .any) (l := l) rfl hsel hQ hC (k := fun d' => stateB .any l.toArray hs (ts ++ us) d' && takesB .any l.toArray (tailB .any l.toArray (ts ++ us)) hs d')
        (K := fun a1 => wpQuiet P l.toArray C (fun a2 => ∀ w', C w' → wpKeep P l.toArray Q C (fun a3 w3 => wpList P l.toArray Q (pick l us) a3 w3) (pick l ts) a2 w') (pick l hs) a1) (fun d' a1 hk' h1 => ?_) ls d a0 hre' (closedB_spec hk.1) hk.2 h0
      simp only [Bool.and_eq_true] at hk'
      have H1 := headAny_lex (P := P) (C := C) (md := .any) (l := l) rfl hsel hw hrow hlt' hs d' a1 (fun i hi => hi) (stateB_spec hk'.1) hk'.2 hdis' h1
      exact wpAnyW_of_headAny (Q' := Q) (g := (ts ++ us).length) (fun d' a2 w' hw' hL => wpAnyW_of_tail (l := l) rfl ts d' a2 w' hL.1 (hL.2 w' hw')) _ _ _ _ hC H1)
    ps (Array.replicate l.toArray.size false) a htk h
  rw [hlen] at H
  simpa using H
/-- **.. with two classes:** the heads and the tail's start lie in D, the loads yield the same in all of C, which the tail keeps. -/
theorem wp_region_order2 {P : Program} {id : Nat} {Q : Exit → Act → World → Prop} {a : Act} {w : World} {l : List Oper} (D C : World → Prop) (hDC : ∀ w, D w → C w) (ps ls hs ts us : List Nat) (hm : P.follows .mixedOrders = true)
    (hB : (orderB .any l.toArray ps ls hs ts us && decide (ps.length + (ls.length + (hs.length + (ts ++ us).length)) = l.length) && hs.all (fun i => !(ts ++ us).contains i)) = true) (hD : D w.drew)
    (hQ : ∀ c a d v w, Q (.panic c) (Act.put a d v) w → Q (.panic c) a w)
    (h : wpPure P l.toArray (fun a0 => wpLoads P l.toArray C (fun a1 => wpQuiet P l.toArray D (fun a2 => ∀ w', D w' → wpKeep P l.toArray Q C (fun a3 w3 => wpList P l.toArray Q (pick l us) a3 w3) (pick l ts) a2 w') (pick l hs) a1) (pick l ls) a0) (pick l ps) a) : (Code.region id l.toArray true).wp P Q a w := by
  simp only [orderB, Bool.and_eq_true, decide_eq_true_eq] at hB
  obtain ⟨⟨⟨⟨⟨⟨⟨⟨⟨⟨hsel, hw⟩, hrow⟩, hlt⟩, hre⟩, _⟩, _⟩, _⟩, htk⟩, hlen⟩, hdis⟩ := hB
  have hlt' : ∀ i ∈ hs, i < l.toArray.size := fun i hi => by simpa using List.all_eq_true.1 hlt i hi
  have hdis' : ∀ i ∈ hs, i ∉ ts ++ us := fun i hi ht => by
    have := List.all_eq_true.1 hdis i hi
    have hc : (ts ++ us).contains i = true := by simpa using ht
    rw [hc] at this
    cases this
  have hre' : ∀ i ∈ ls, ∀ j ∈ us, reachB .any l.toArray l.toArray.size j i = true := fun i hi j hj => List.all_eq_true.1 (List.all_eq_true.1 hre j hj) i hi
  refine wp_region_any hm ?_
  have H := wpAny_of_pure (P := P) (md := .any) (l := l) rfl hsel hQ (g := ls.length + (hs.length + (ts ++ us).length)) (w := w.drew)
    (k := fun d => closedB .any l.toArray d && takesB .any l.toArray (fun d' => stateB .any l.toArray hs (ts ++ us) d' && takesB .any l.toArray (tailB .any l.toArray (ts ++ us)) hs d') ls d)
    (K := fun a0 => wpLoads P l.toArray C (fun a1 => wpQuiet P l.toArray D (fun a2 => ∀ w', D w' → wpKeep P l.toArray Q C (fun a3 w3 => wpList P l.toArray Q (pick l us) a3 w3) (pick l ts) a2 w') (pick l hs) a1) (pick l ls) a0)
    (fun d a0 hk h0 => by
      simp only [Bool.and_eq_true] at hk
      refine wpAny_of_wpAnyW (C := C) (us := us) _ _ _ _ ?_
      refine wpAnyW_of_loads (md := .any) (l := l) rfl hsel hQ (hDC _ hD) (k := fun d' => stateB .any l.toArray hs (ts ++ us) d' && takesB .any l.toArray (tailB .any l.toArray (ts ++ us)) hs d')
        (K := fun a1 => wpQuiet P l.toArray D (fun a2 => ∀ w', D w' → wpKeep P l.toArray Q C (fun a3 w3 => wpList P l.toArray Q (pick l us) a3 w3) (pick l ts) a2 w') (pick l hs) a1) (fun d' a1 hk' h1 => ?_) ls d a0 hre' (closedB_spec hk.1) hk.2 h0
      simp only [Bool.and_eq_true] at hk'
      have H1 := headAny_lex (P := P) (C := D) (md := .any) (l := l) rfl hsel hw hrow hlt' hs d' a1 (fun i hi => hi) (stateB_spec hk'.1) hk'.2 hdis' h1
      exact wpAnyW_of_headAny2 (C := C) hDC (Q' := Q) (g := (ts ++ us).length) (fun d' a2 w' hw' hL => wpAnyW_of_tail (l := l) rfl ts d' a2 w' hL.1 (hL.2 w' hw')) _ _ _ _ hD H1)
    ps (Array.replicate l.toArray.size false) a htk h
  rw [hlen] at H
  simpa using H
end Go.Proofs.Ytelfihgkbbaifaa
