/- Float2, QNewL, QNew. -/
import Derived.Test.YtfhpaehfihnjaaaGreatDFloat
import Derived.Test.YtfhpaehfihnjaaaGreatSetLP
import Derived.Test.YtfhpaehfihnjaaaGreatSortL
import Derived.Test.YtfhpaehfihnjaaaGreatQSetA
import Derived.Test.YtfhpaehfihnjaaaGreatTQNew
import Derived.Test.YtfhpaehfihnjaaaGreatDQNew
import Derived.BigRegion
namespace Go.Proofs.YtfhpaehfihnjaaaGreat.D
open Go.RowKit
section
variable {P : Program} {ops : Array Oper} {md : Region.Mode} {C : World → Prop}
def floatP2 (P : Program) (ops : Array Oper) (l : List Oper) (Q : Exit → Act → World → Prop) (C : World → Prop) (k : Nat) (ts2 us : List Nat) : List Nat → Act → World → Prop
  | [], a, w => wpKeep P ops Q C (fun a' w' => wpList P ops Q (pick l us) a' w') (pick l (k :: ts2)) a w
  | t :: ts, a, w => wpKeep P ops Q C (fun a' w' => wpList P ops Q (pick l us) a' w') (pick l (k :: (t :: ts ++ ts2))) a w ∧ wpKeep P ops Q C (fun a' w' => floatP2 P ops l Q C k ts2 us ts a' w') (pick l [t]) a w
theorem floatP2_nil {l : List Oper} {Q : Exit → Act → World → Prop} {k : Nat} {ts2 us : List Nat} {a : Act} {w : World} (h : wpKeep P ops Q C (fun a' w' => wpList P ops Q (pick l us) a' w') (pick l (k :: ts2)) a w) : floatP2 P ops l Q C k ts2 us [] a w := h
theorem floatP2_cons {l : List Oper} {Q : Exit → Act → World → Prop} {k t : Nat} {ts2 us ts : List Nat} {a : Act} {w : World} (h1 : wpKeep P ops Q C (fun a' w' => wpList P ops Q (pick l us) a' w') (pick l (k :: (t :: ts ++ ts2))) a w)
    (h2 : wpKeep P ops Q C (fun a' w' => floatP2 P ops l Q C k ts2 us ts a' w') (pick l [t]) a w) : floatP2 P ops l Q C k ts2 us (t :: ts) a w := ⟨h1, h2⟩
theorem wpAnyW_of_float2 {l : List Oper} (hl : ops = l.toArray) {Q' : Exit → Act → World → Prop} {k : Nat} {ts2 us : List Nat} : ∀ (ts : List Nat) (d : Array Bool) (a : Act) (w : World), floatB md ops k (ts2 ++ us) ts d = true → floatP2 P ops l Q' C k ts2 us ts a w →
    wpAnyW P md ops Q' C us (ts.length + (k :: (ts2 ++ us)).length) d a w := by
  intro ts
  induction ts with
  | nil =>
    intro d a w hB h
    have := wpAnyW_of_tail (C := C) (us := us) hl (k :: ts2) d a w (by simpa [floatB] using hB) h
    simpa using this
  | cons t ts ih =>
    intro d a w hB h
    simp only [floatB, Bool.and_eq_true, Bool.or_eq_true, decide_eq_true_eq] at hB
    obtain ⟨⟨hr, ha⟩, hb⟩ := hB
    have hn : (t :: ts).length + (k :: (ts2 ++ us)).length = (ts.length + (k :: (ts2 ++ us)).length) + 1 := by simp; omega
    rw [hn]
    refine ⟨fun h0 => (by rcases hr with hr | hr <;> (rw [hr] at h0; cases h0)), fun i hi => ?_⟩
    have hi' : i = t ∨ i = k := by
      rcases hr with hr | hr
      · rw [hr] at hi; simpa using hi
      · rw [hr] at hi; exact (show i = k ∨ i = t by simpa using hi).symm
    rcases hi' with rfl | rfl
    · exact wpOp_of_keep hl hi h.2 (fun a' w' hh => ih _ a' w' hb hh)
    · have hn2 : ts.length + (i :: (ts2 ++ us)).length = ((t :: ts ++ ts2) ++ us).length := by simp; omega
      rw [hn2]
      exact wpOp_of_keep hl hi h.1 (fun a' w' hh => wpAnyW_of_tail hl (t :: ts ++ ts2) _ a' w' (by simpa using ha) hh)
end
theorem wp_region_float2 {P : Program} {id : Nat} {Q : Exit → Act → World → Prop} {a : Act} {w : World} {l : List Oper} (C : World → Prop) (ps ls ts : List Nat) (k : Nat) (ts2 us : List Nat) (hm : P.follows .mixedOrders = true)
    (hB : (Region.noSelect l.toArray && us.all (fun j => ls.all fun i => reachB .any l.toArray l.toArray.size j i) &&
      takesB .any l.toArray (fun d => closedB .any l.toArray d && takesB .any l.toArray (floatB .any l.toArray k (ts2 ++ us) ts) ls d) ps (Array.replicate l.toArray.size false) && decide (ps.length + (ls.length + (ts.length + (k :: (ts2 ++ us)).length)) = l.length)) = true) (hC : C w.drew)
    (hQ : ∀ c a d v w, Q (.panic c) (Act.put a d v) w → Q (.panic c) a w)
    (h : wpPure P l.toArray (fun a0 => wpLoads P l.toArray C (fun a1 => floatP2 P l.toArray l Q C k ts2 us ts a1 w.drew) (pick l ls) a0) (pick l ps) a) : (Code.region id l.toArray true).wp P Q a w := by
  simp only [Bool.and_eq_true, decide_eq_true_eq] at hB
  obtain ⟨⟨⟨hsel, hre⟩, htk⟩, hlen⟩ := hB
  have hre' : ∀ i ∈ ls, ∀ j ∈ us, reachB .any l.toArray l.toArray.size j i = true := fun i hi j hj => List.all_eq_true.1 (List.all_eq_true.1 hre j hj) i hi
  refine wp_region_any hm ?_
  have H := wpAny_of_pure (P := P) (md := .any) (l := l) rfl hsel hQ (g := ls.length + (ts.length + (k :: (ts2 ++ us)).length)) (w := w.drew)
    (k := fun d => closedB .any l.toArray d && takesB .any l.toArray (floatB .any l.toArray k (ts2 ++ us) ts) ls d)
    (K := fun a0 => wpLoads P l.toArray C (fun a1 => floatP2 P l.toArray l Q C k ts2 us ts a1 w.drew) (pick l ls) a0)
    (fun d a0 hk h0 => by
      simp only [Bool.and_eq_true] at hk
      refine wpAny_of_wpAnyW (C := C) (us := us) _ _ _ _ ?_
      exact wpAnyW_of_loads (md := .any) (l := l) rfl hsel hQ hC (k := floatB .any l.toArray k (ts2 ++ us) ts) (fun d' a1 hk' h1 => wpAnyW_of_float2 rfl ts _ _ _ hk' h1) ls d a0 hre' (closedB_spec hk.1) hk.2 h0)
    ps (Array.replicate l.toArray.size false) a htk h
  rw [hlen] at H
  simpa using H
end Go.Proofs.YtfhpaehfihnjaaaGreat.D
namespace Go.Proofs.YtfhpaehfihnjaaaGreat
open Go.RowKit
theorem newUs_conf : ∀ {l : List Conf} {us us' : List UN}, newUs l us = some us' → us'.map (·.conf) = us.map (·.conf) ++ l
  | [], us, us', h => by
    injection h with h; subst h; simp
  | c :: l, us, us', h => by
    unfold newUs at h
    obtain ⟨u1, h1, h2⟩ := Option.bind_eq_some_iff.1 h
    have h3 := newUs_conf h2
    unfold newStep at h1
    split at h1
    · cases h1
    split at h1
    · cases h1
    split at h1
    · cases h1
    injection h1 with h1
    subst h1
    rw [h3]
    simp
def dupB (a c : Conf) : Bool := decide (a.addr = c.addr) || (volB a && (volB c && decide (a.serial = c.serial)))
theorem any_conf {us : List UN} {l : List Conf} (h : us.map (·.conf) = l) (f : Conf → Bool) : us.any (fun u => f u.conf) = l.any f := by
  subst h; simp [List.any_map, Function.comp_def]
theorem step_some {us : List UN} {l : List Conf} {c : Conf} {d : Dev} (h : us.map (·.conf) = l) (hd : confDev c = some d) (ha : 0 ≤ c.addr ∧ c.addr < 1024) (hn : ∀ a ∈ l, dupB a c = false) : newStep us c = some (us ++ [⟨c, d, 0, 0, false⟩]) := by
  unfold newStep
  rw [hd]
  dsimp only
  have h1 : us.any (fun u => decide (u.conf.addr = c.addr)) = false := by
    rw [any_conf h (fun a => decide (a.addr = c.addr)), List.any_eq_false]
    intro a ha2
    have := hn a ha2
    unfold dupB at this
    simp at this
    simp [this.1]
  have h2 : ¬ (volB c = true ∧ us.any (fun u => volB u.conf && decide (u.conf.serial = c.serial)) = true) := by
    rintro ⟨hv, h3⟩
    rw [any_conf h (fun a => volB a && decide (a.serial = c.serial)), List.any_eq_true] at h3
    obtain ⟨a, ha2, h4⟩ := h3
    have := hn a ha2
    unfold dupB at this
    rw [hv] at this
    simp at this h4
    exact this.2 h4.1 h4.2
  rw [if_neg (by rw [h1]; simp; omega), if_neg h2]
theorem step_dup {us : List UN} {l : List Conf} {a c : Conf} (h : us.map (·.conf) = l) (ha : a ∈ l) (hn : dupB a c = true) : newStep us c = none := by
  unfold newStep
  split
  · rfl
  split
  · rfl
  rename_i h1
  split
  · rfl
  rename_i h2
  exfalso
  unfold dupB at hn
  simp only [Bool.or_eq_true, decide_eq_true_eq, Bool.and_eq_true] at hn
  rcases hn with hn | ⟨hv, hc, hs⟩
  · exact h1 (Or.inl (by rw [any_conf h (fun a => decide (a.addr = c.addr)), List.any_eq_true]; exact ⟨a, ha, by simpa using hn⟩))
  · exact h2 ⟨hc, by rw [any_conf h (fun a => volB a && decide (a.serial = c.serial)), List.any_eq_true]; exact ⟨a, ha, by simp [hv, hs]⟩⟩
theorem step_range {us : List UN} {c : Conf} {d : Dev} (hd : confDev c = some d) (ha : ¬ (0 ≤ c.addr ∧ c.addr < 1024)) : newStep us c = none := by
  unfold newStep
  rw [hd]
  dsimp only
  rw [if_pos (by omega)]
theorem leU_trans (a b c : UN) (h1 : leU a b = true) (h2 : leU b c = true) : leU a c = true := by unfold leU at *; simp at *; omega
theorem leU_total (a b : UN) : (leU a b || leU b a) = true := by unfold leU; simp; omega
theorem apart_eq {us : List UN} (h : us.Pairwise fun a b => a.conf.addr ≠ b.conf.addr) {a b : UN} (ha : a ∈ us) (hb : b ∈ us) (e : a.conf.addr = b.conf.addr) : a = b := by
  obtain ⟨i, hi, rfl⟩ := List.getElem_of_mem ha
  obtain ⟨j, hj, rfl⟩ := List.getElem_of_mem hb
  rw [List.pairwise_iff_getElem] at h
  rcases Nat.lt_trichotomy i j with hij | rfl | hij
  · exact absurd e (h i j hi hj hij)
  · rfl
  · exact absurd e.symm (h j i hj hi hij)
theorem ins_sorted {us : List UN} {u : UN} {m : Nat} (hap : (us ++ [u]).Pairwise fun a b => a.conf.addr ≠ b.conf.addr) (hm : m ≤ us.length)
    (h1 : ∀ j y, j < m → (us.mergeSort leU)[j]? = some y → y.conf.addr < u.conf.addr) (h2 : ∀ y, (us.mergeSort leU)[m]? = some y → ¬ y.conf.addr < u.conf.addr) :
    (us.mergeSort leU).take m ++ u :: (us.mergeSort leU).drop m = (us ++ [u]).mergeSort leU := by
  have hp := List.mergeSort_perm us leU
  have hs : (us.mergeSort leU).Pairwise fun a b => leU a b = true := List.pairwise_mergeSort leU_trans leU_total us
  have hl : (us.mergeSort leU).length = us.length := hp.length_eq
  generalize us.mergeSort leU = T at *
  have hperm : (T.take m ++ u :: T.drop m).Perm (us ++ [u]) := by
    refine (List.perm_middle).trans ?_
    rw [List.take_append_drop]
    exact (hp.cons u).trans (List.perm_append_singleton u us).symm
  refine List.Perm.eq_of_pairwise (le := fun a b => leU a b = true) ?_ ?_ (List.pairwise_mergeSort leU_trans leU_total _) (hperm.trans (List.mergeSort_perm _ _).symm)
  · intro a b ha hb hab hba
    refine apart_eq hap (hperm.mem_iff.1 ha) ((List.mergeSort_perm _ _).mem_iff.1 hb) ?_
    unfold leU at hab hba
    simp at hab hba
    omega
  · have hT : (T.take m ++ T.drop m).Pairwise fun a b => leU a b = true := by rw [List.take_append_drop]; exact hs
    rw [List.pairwise_append] at hT ⊢
    obtain ⟨p1, p2, p3⟩ := hT
    have hge : ∀ y ∈ T.drop m, u.conf.addr ≤ y.conf.addr := by
      intro y hy
      obtain ⟨j, hj, rfl⟩ := List.getElem_of_mem hy
      rw [List.length_drop] at hj
      have hmT : m < T.length := by omega
      have h0 := h2 T[m] (List.getElem?_eq_getElem hmT)
      have e : (T.drop m)[j] = T[m + j]'(by omega) := by simp
      rw [e]
      by_cases hj0 : j = 0
      · subst hj0; simp; omega
      · have := (List.pairwise_iff_getElem.1 hs) m (m + j) hmT (by omega) (by omega)
        unfold leU at this
        simp at this
        omega
    refine ⟨p1, List.pairwise_cons.2 ⟨fun y hy => by unfold leU; simp; exact hge y hy, p2⟩, ?_⟩
    intro a ha b hb
    rcases List.mem_cons.1 hb with rfl | hb
    · obtain ⟨j, hj, rfl⟩ := List.getElem_of_mem ha
      rw [List.length_take] at hj
      have := h1 j (T[j]'(by omega)) (by omega) (List.getElem?_eq_getElem (by omega))
      unfold leU
      simp
      omega
    · exact p3 a ha b hb
end Go.Proofs.YtfhpaehfihnjaaaGreat
namespace Go.Proofs.YtfhpaehfihnjaaaGreat
open Go.RowKit
def QOneR (W : World) (F : List SA) (c : Conf) (e : Ending) (w' : World) : Prop :=
  match confDev c with
  | some d => if 0 ≤ c.addr ∧ c.addr < 1024 then ∃ b db, e = .returned (.tuple #[ptrV b, .bool true]) ∧ SL W (cel b (qoneCells db ⟨c, d, 0, 0, false⟩) 45 :: qdevS db d :: F) w' else ∃ p, e = .returned (.tuple #[p, .bool false]) ∧ SL W F w'
  | none => ∃ p, e = .returned (.tuple #[p, .bool false]) ∧ SL W F w'
theorem QOneR.none_ {W w' : World} {F : List SA} {c : Conf} {p : Value} (h : confDev c = none) (S : SL W F w') : QOneR W F c (.returned (.tuple #[p, .bool false])) w' := by
  unfold QOneR; rw [h]; exact ⟨p, rfl, S⟩
theorem QOneR.out_ {W w' : World} {F : List SA} {c : Conf} {p : Value} {d : Dev} (h : confDev c = some d) (ha : ¬ (0 ≤ c.addr ∧ c.addr < 1024)) (S : SL W F w') : QOneR W F c (.returned (.tuple #[p, .bool false])) w' := by
  unfold QOneR; rw [h]; dsimp only; rw [if_neg ha]; exact ⟨p, rfl, S⟩
theorem QOneR.some_ {W w' : World} {F : List SA} {c : Conf} {d : Dev} {b db : Nat} (h : confDev c = some d) (ha : 0 ≤ c.addr ∧ c.addr < 1024) (S : SL W (cel b (qoneCells db ⟨c, d, 0, 0, false⟩) 45 :: qdevS db d :: F) w') : QOneR W F c (.returned (.tuple #[ptrV b, .bool true])) w' := by
  unfold QOneR; rw [h]; dsimp only; rw [if_pos ha]; exact ⟨b, db, rfl, S⟩
section
variable {W w : World} {F : List SA}
set_option maxRecDepth 100000 in
set_option maxHeartbeats 32000000 in
theorem qone_any (c : Conf) (hz : c.serial.size ≤ 140737488355328) (S : SL W F w) : Calls Tryz.prog 27 #[.agg (confA c)] w (QOneR W F c) := by
  have h0 := (S.allocC (confA c) 68).allocC #[.int .i64 c.addr, .int .i64 c.kind, .pointer none, .pointer none, .pointer none, .pointer none, .pointer none, .int .i64 0, .int .i64 0, .bool false] 45
  rw [World.size_alloc] at h0
  have H0 := Lib.hid h0
  clear S h0
  unfold confA at H0 ⊢
  obtain ⟨ca, ck, cs, cc, ch⟩ := c
  dsimp only at *
  go_enter Tryz.func27, Tryz.ntmps27
  go_upto_region 3 with fail
  refine name_world (P := Code.wp _ _ _ _) ?_
  intro wA hwA
  have HA := Lib.hid (SL.cast hwA H0.out)
  clear hwA H0
  generalize w.heap.size + 1 = ub at *
  generalize w.heap.size = cb at *
  obtain ⟨L, K, z⟩ := HA.out.s1.look
  have L0 : wA.cell? ⟨cb, 0, none⟩ = some (.int .i64 ca) := L 0
  have L1 : wA.cell? ⟨cb, 1, none⟩ = some (.int .i64 ck) := L 1
  have L2 : wA.cell? ⟨cb, 2, none⟩ = some (.string cs) := L 2
  have L3 : wA.cell? ⟨cb, 3, none⟩ = some (.int .i64 cc) := L 3
  have L4 : wA.cell? ⟨cb, 4, none⟩ = some (.int .i64 ch) := L 4
  obtain ⟨M, N, y⟩ := HA.out.look
  clear L
  by_cases h1 : ck = 1
  · subst h1
    have HCD := Lib.hid (show confDev ⟨ca, 1, cs, cc, ch⟩ = some (.reader 0 0 0 []) from rfl)
    have h1 := (HA.out.set (off := 2) (v := .pointer (some ⟨wA.heap.size, 0, none⟩)) rfl).allocC #[.slice none 0 0, .int .i64 0, .int .i64 0, .int .i64 0] 97
    rw [World.size_setCell] at h1
    have HQ := Lib.hid h1.s1
    clear h1
    go_upto_region 15 with fail
    refine name_world (P := Code.wp _ _ _ _) ?_
    intro wB hwB
    have HB := Lib.hid (SL.cast hwB HQ.out)
    clear hwB HQ L0 L1 L2 L3 L4 M N y
    generalize wA.heap.size = db at *
    obtain ⟨P, Q, q⟩ := HB.out.s2.look
    have P0 : wB.cell? ⟨cb, 0, none⟩ = some (.int .i64 ca) := P 0
    clear P
    by_cases ha : 0 ≤ ca
    · by_cases hb : ca < 1024
      · go_big_region
        go_wp2
        go_ret2
        exact QOneR.some_ HCD.out ⟨ha, hb⟩ (by
          have SN := (SL.drew HB.out).s2.drop.s1
          exact (U.readqS_close (v := .slice none 0 0) (U.deckS_close (ps := []) (SN.empty.nil _ _)).s1).s1)
      · go_big_region
        go_wp2
        go_ret2
        exact QOneR.out_ HCD.out (fun h => by dsimp only at h; omega) (SL.drew HB.out.drop.drop.drop)
    · go_big_region
      go_wp2
      go_ret2
      exact QOneR.out_ HCD.out (fun h => by dsimp only at h; omega) (SL.drew HB.out.drop.drop.drop)
  · have t1 : (ck == 1) = false := by simpa using h1
    by_cases h2 : ck = 2
    · subst h2
      have HCD := Lib.hid (show confDev ⟨ca, 2, cs, cc, ch⟩ = some (.punch 0 []) from rfl)
      have h1 := (HA.out.set (off := 3) (v := .pointer (some ⟨wA.heap.size, 0, none⟩)) rfl).allocC #[.slice none 0 0, .int .i64 0] 100
      rw [World.size_setCell] at h1
      have HQ := Lib.hid h1.s1
      clear h1
      go_upto_region 15 with fail
      refine name_world (P := Code.wp _ _ _ _) ?_
      intro wB hwB
      have HB := Lib.hid (SL.cast hwB HQ.out)
      clear hwB HQ L0 L1 L2 L3 L4 M N y
      generalize wA.heap.size = db at *
      obtain ⟨P, Q, q⟩ := HB.out.s2.look
      have P0 : wB.cell? ⟨cb, 0, none⟩ = some (.int .i64 ca) := P 0
      clear P
      by_cases ha : 0 ≤ ca
      · by_cases hb : ca < 1024
        · go_big_region
          go_wp2
          go_ret2
          exact QOneR.some_ HCD.out ⟨ha, hb⟩ (by
            have SN := (SL.drew HB.out).s2.drop.s1
            exact (U.qunS_close (v := .slice none 0 0) (U.deckS_close (ps := []) (SN.empty.nil _ _)).s1).s1)
        · go_big_region
          go_wp2
          go_ret2
          exact QOneR.out_ HCD.out (fun h => by dsimp only at h; omega) (SL.drew HB.out.drop.drop.drop)
      · go_big_region
        go_wp2
        go_ret2
        exact QOneR.out_ HCD.out (fun h => by dsimp only at h; omega) (SL.drew HB.out.drop.drop.drop)
    · have t2 : (ck == 2) = false := by simpa using h2
      by_cases h3 : ck = 3
      · subst h3
        have HCD := Lib.hid (show confDev ⟨ca, 3, cs, cc, ch⟩ = some (.printer ⟨0, [], 0⟩) from rfl)
        have h1 := (HA.out.set (off := 4) (v := .pointer (some ⟨wA.heap.size, 0, none⟩)) rfl).allocC #[.slice none 0 0, .int .i64 0, .int .i64 0] 105
        rw [World.size_setCell] at h1
        have HQ := Lib.hid h1.s1
        clear h1
        go_upto_region 15 with fail
        refine name_world (P := Code.wp _ _ _ _) ?_
        intro wB hwB
        have HB := Lib.hid (SL.cast hwB HQ.out)
        clear hwB HQ L0 L1 L2 L3 L4 M N y
        generalize wA.heap.size = db at *
        obtain ⟨P, Q, q⟩ := HB.out.s2.look
        have P0 : wB.cell? ⟨cb, 0, none⟩ = some (.int .i64 ca) := P 0
        clear P
        by_cases ha : 0 ≤ ca
        · by_cases hb : ca < 1024
          · go_big_region
            go_wp2
            go_ret2
            exact QOneR.some_ HCD.out ⟨ha, hb⟩ (by
              have SN := (SL.drew HB.out).s2.drop.s1
              exact (U.qprintS_close (s := ⟨0, [], 0⟩) (A := none) (c := 0) (SN.nil 108 3).s1).s1)
          · go_big_region
            go_wp2
            go_ret2
            exact QOneR.out_ HCD.out (fun h => by dsimp only at h; omega) (SL.drew HB.out.drop.drop.drop)
        · go_big_region
          go_wp2
          go_ret2
          exact QOneR.out_ HCD.out (fun h => by dsimp only at h; omega) (SL.drew HB.out.drop.drop.drop)
      · have t3 : (ck == 3) = false := by simpa using h3
        by_cases h4 : ck = 4
        · subst h4
          have HN := Lib.hid (T.qnew_any cs none [] 0 HA.out (fun w S i b h => by cases h) hz (Nat.zero_le _) (fun b hb => by cases hb))
          cases hs : T.serOk cs with
          | true =>
            have HCD := Lib.hid (show confDev ⟨ca, 4, cs, cc, ch⟩ = some (.tape cs (T.freshTP [])) from by unfold confDev; simp [hs])
            go_wp2_with fail
            refine HN.out.mono ?_
            rintro e w2 h
            unfold T.QNewS at h
            rw [if_pos (by unfold T.newErr; rw [hs]; rfl)] at h
            obtain ⟨db, rfl, S2⟩ := h
            have HQ := Lib.hid (S2.s1.set (off := 5) (v := .pointer (some ⟨db, 0, none⟩)) rfl)
            obtain ⟨R, R', R''⟩ := S2.s1.look
            clear S2 HN hs HA L0 L1 L2 L3 L4 M N y
            go_upto_region 15 with fail
            refine name_world (P := Code.wp _ _ _ _) ?_
            intro wB hwB
            have HB := Lib.hid (SL.cast hwB HQ.out)
            clear hwB HQ R R' R''
            obtain ⟨P, Q, q⟩ := HB.out.s2.look
            have P0 : wB.cell? ⟨cb, 0, none⟩ = some (.int .i64 ca) := P 0
            clear P
            by_cases ha : 0 ≤ ca
            · by_cases hb : ca < 1024
              · go_big_region
                go_wp2
                go_ret2
                exact QOneR.some_ HCD.out ⟨ha, hb⟩ ((SL.drew HB.out).s2.drop)
              · go_big_region
                go_wp2
                go_ret2
                exact QOneR.out_ HCD.out (fun h => by dsimp only at h; omega) (SL.drew HB.out.drop.drop.drop)
            · go_big_region
              go_wp2
              go_ret2
              exact QOneR.out_ HCD.out (fun h => by dsimp only at h; omega) (SL.drew HB.out.drop.drop.drop)
          | false =>
            have HCD := Lib.hid (show confDev ⟨ca, 4, cs, cc, ch⟩ = none from by unfold confDev; simp [hs])
            go_wp2_with fail
            refine HN.out.mono ?_
            rintro e w2 h
            unfold T.QNewS at h
            rw [if_neg (by unfold T.newErr; rw [if_pos hs]; decide)] at h
            obtain ⟨rfl, S2⟩ := h
            have HQ := Lib.hid (S2.set (off := 5) (v := .pointer none) rfl)
            obtain ⟨R, R', R''⟩ := S2.look
            clear S2 HN HA L0 L1 L2 L3 L4 M N y
            have he : T.newErr cs [] = 1 := by unfold T.newErr; rw [if_pos hs]
            rw [he]
            clear he hs
            go_upto_region 15 with fail
            refine name_world (P := Code.wp _ _ _ _) ?_
            intro wB hwB
            have HB := Lib.hid (SL.cast hwB HQ.out)
            clear hwB HQ R R' R''
            go_big_region
            go_wp2
            go_ret2
            exact QOneR.none_ HCD.out (SL.drew HB.out.drop.drop)
        · have t4 : (ck == 4) = false := by simpa using h4
          by_cases h5 : ck = 5
          · subst h5
            have HN := Lib.hid (D.qnew_any cs hz cc ch HA.out)
            cases hs : D.newOk cs cc ch with
            | true =>
              have HCD := Lib.hid (show confDev ⟨ca, 5, cs, cc, ch⟩ = some (.disk (D.freshDK cs cc.toNat ch.toNat)) from by unfold confDev; simp [hs])
              go_wp2_with fail
              refine HN.out.mono ?_
              rintro e w2 h
              unfold D.QNewR at h
              rw [if_pos hs] at h
              obtain ⟨db, rfl, S2⟩ := h
              have HQ := Lib.hid (S2.s1.set (off := 6) (v := .pointer (some ⟨db, 0, none⟩)) rfl)
              obtain ⟨R, R', R''⟩ := S2.s1.look
              clear S2 HN hs HA L0 L1 L2 L3 L4 M N y
              go_upto_region 15 with fail
              refine name_world (P := Code.wp _ _ _ _) ?_
              intro wB hwB
              have HB := Lib.hid (SL.cast hwB HQ.out)
              clear hwB HQ R R' R''
              obtain ⟨P, Q, q⟩ := HB.out.s2.look
              have P0 : wB.cell? ⟨cb, 0, none⟩ = some (.int .i64 ca) := P 0
              clear P
              by_cases ha : 0 ≤ ca
              · by_cases hb : ca < 1024
                · go_big_region
                  go_wp2
                  go_ret2
                  exact QOneR.some_ HCD.out ⟨ha, hb⟩ ((SL.drew HB.out).s2.drop)
                · go_big_region
                  go_wp2
                  go_ret2
                  exact QOneR.out_ HCD.out (fun h => by dsimp only at h; omega) (SL.drew HB.out.drop.drop.drop)
              · go_big_region
                go_wp2
                go_ret2
                exact QOneR.out_ HCD.out (fun h => by dsimp only at h; omega) (SL.drew HB.out.drop.drop.drop)
            | false =>
              have HCD := Lib.hid (show confDev ⟨ca, 5, cs, cc, ch⟩ = none from by unfold confDev; simp [hs])
              go_wp2_with fail
              refine HN.out.mono ?_
              rintro e w2 h
              unfold D.QNewR at h
              rw [if_neg (by rw [hs]; decide)] at h
              obtain ⟨rfl, S2⟩ := h
              have HQ := Lib.hid (S2.set (off := 6) (v := .pointer none) rfl)
              obtain ⟨R, R', R''⟩ := S2.look
              clear S2 HN HA L0 L1 L2 L3 L4 M N y
              clear hs
              go_upto_region 15 with fail
              refine name_world (P := Code.wp _ _ _ _) ?_
              intro wB hwB
              have HB := Lib.hid (SL.cast hwB HQ.out)
              clear hwB HQ R R' R''
              go_big_region
              go_wp2
              go_ret2
              exact QOneR.none_ HCD.out (SL.drew HB.out.drop.drop)
          · have t5 : (ck == 5) = false := by simpa using h5
            have HCD := Lib.hid (show confDev ⟨ca, ck, cs, cc, ch⟩ = none from by unfold confDev; simp [h1, h2, h3, h4, h5])
            clear h1 h2 h3 h4 h5
            go_wp2
            go_ret2
            exact QOneR.none_ HCD.out HA.out.drop.drop
end
end Go.Proofs.YtfhpaehfihnjaaaGreat
