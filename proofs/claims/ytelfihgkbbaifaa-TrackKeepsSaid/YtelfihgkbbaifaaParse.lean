/- Decode, plainly: the program's way and the reference's give the same. -/
import Derived.Test.YtelfihgkbbaifaaAt
namespace Go.Proofs.Ytelfihgkbbaifaa
open Go.RowKit
def kl (r : List UInt8) : Nat := (r.getD 5 0).toNat
def dl (r : List UInt8) : Nat := hN r 6
def pend (r : List UInt8) : Nat := 8 + kl r + dl r
def recOf (r : List UInt8) : Rec := ⟨((r.getD 4 0).toNat : Int), (r.drop 8).take (kl r), (r.drop (8 + kl r)).take (dl r), false⟩
def goP (t : List Rec) (cy hd : Nat) (r : List UInt8) : Option (Nat × Nat × List Rec × List UInt8) :=
  if h : 8 < r.length then
    if hN r 0 ≠ (if t.length = 0 then hN r 0 else cy) ∨ hN r 2 ≠ (if t.length = 0 then hN r 2 else hd) ∨ r.length < pend r then none
    else goP (t ++ [recOf r]) (if t.length = 0 then hN r 0 else cy) (if t.length = 0 then hN r 2 else hd) (r.drop (pend r))
  else some (cy, hd, t, r)
termination_by r.length
decreasing_by rw [List.length_drop]; unfold pend; omega
def goQ (t : List Rec) (cy hd : Nat) (r : List UInt8) : Option (Nat × Nat × List Rec × List UInt8) :=
  if h : 8 < r.length then
    if r.length < pend r then none
    else goQ (t ++ [recOf r]) (if t.length = 0 then hN r 0 else cy) (if t.length = 0 then hN r 2 else hd) (r.drop (pend r))
  else some (cy, hd, t, r)
termination_by r.length
decreasing_by rw [List.length_drop]; unfold pend; omega
def decP (b : List UInt8) : Option (Nat × Nat × List Rec) := match goP [] 0 0 b with
  | none => none
  | some (cy, hd, t, r) => if r.length = 8 ∧ validB t = true ∧ r.all (· == 255) = true then some (cy, hd, t) else none
def decQ (b : List UInt8) : Option (Nat × Nat × List Rec) := match goQ [] 0 0 b with
  | none => none
  | some (cy, hd, t, _) => if encE cy hd t = 0 ∧ encB cy hd t = b then some (cy, hd, t) else none
theorem getD_of {l : List UInt8} {i : Nat} (h : i < l.length) : l.getD i 0 = l[i] := by rw [List.getD_eq_getElem?_getD, List.getElem?_eq_getElem h]; rfl
theorem halfL_hN {l : List UInt8} {i : Nat} : halfL (hN l i) = [l.getD i 0, l.getD (i + 1) 0] := by
  have h1 := (l.getD i 0).toNat_lt
  have h2 := (l.getD (i + 1) 0).toNat_lt
  unfold halfL hN
  rw [show (256 * (l.getD i 0).toNat + (l.getD (i + 1) 0).toNat) / 256 = (l.getD i 0).toNat by omega, show (256 * (l.getD i 0).toNat + (l.getD (i + 1) 0).toNat) % 256 = (l.getD (i + 1) 0).toNat by omega, UInt8.ofNat_toNat, UInt8.ofNat_toNat]
theorem drop_cons {l : List UInt8} {i : Nat} (h : i < l.length) : l.drop i = l.getD i 0 :: l.drop (i + 1) := by rw [getD_of h, List.drop_eq_getElem_cons h]
theorem recOf_len {r : List UInt8} (h : pend r ≤ r.length) : (recOf r).key.length = kl r ∧ (recOf r).data.length = dl r := by
  unfold pend at h
  simp only [recOf, List.length_take, List.length_drop]
  omega
/-- What was read is what lies there. -/
theorem enc_recOf {r : List UInt8} (h8 : 8 < r.length) (h : pend r ≤ r.length) : encR (hN r 0) (hN r 2) (recOf r) ++ r.drop (pend r) = r := by
  obtain ⟨e1, e2⟩ := recOf_len h
  have hk := (r.getD 5 0).toNat_lt
  have e3 : UInt8.ofNat (recOf r).r.toNat = r.getD 4 0 := by simp only [recOf, Int.toNat_natCast, UInt8.ofNat_toNat]
  have e4 : UInt8.ofNat (kl r) = r.getD 5 0 := by simp only [kl, UInt8.ofNat_toNat]
  have e5 : halfL (dl r) = [r.getD 6 0, r.getD 7 0] := halfL_hN
  unfold encR
  rw [e1, e2, e3, e4, e5, halfL_hN, halfL_hN]
  have e6 : (recOf r).key ++ ((recOf r).data ++ r.drop (pend r)) = r.drop 8 := by
    have a1 : (recOf r).data ++ r.drop (pend r) = r.drop (8 + kl r) := by
      show (r.drop (8 + kl r)).take (dl r) ++ r.drop (8 + kl r + dl r) = _
      rw [← List.drop_drop (i := dl r), List.take_append_drop]
    rw [a1]
    show (r.drop 8).take (kl r) ++ r.drop (8 + kl r) = _
    rw [← List.drop_drop, List.take_append_drop]
  have e7 : r = r.getD 0 0 :: r.getD 1 0 :: r.getD 2 0 :: r.getD 3 0 :: r.getD 4 0 :: r.getD 5 0 :: r.getD 6 0 :: r.getD 7 0 :: r.drop 8 := by
    have := drop_cons (l := r) (i := 0) (by omega)
    rw [List.drop_zero, drop_cons (i := 0 + 1) (by omega), drop_cons (i := 0 + 1 + 1) (by omega), drop_cons (i := 0 + 1 + 1 + 1) (by omega), drop_cons (i := 0 + 1 + 1 + 1 + 1) (by omega), drop_cons (i := 0 + 1 + 1 + 1 + 1 + 1) (by omega), drop_cons (i := 0 + 1 + 1 + 1 + 1 + 1 + 1) (by omega), drop_cons (i := 0 + 1 + 1 + 1 + 1 + 1 + 1 + 1) (by omega)] at this
    exact this
  simp only [List.append_assoc, List.cons_append, List.nil_append, e6]
  exact e7.symm
theorem halfL_inj {a b : Nat} (ha : a ≤ 65535) (hb : b ≤ 65535) (h : halfL a = halfL b) : a = b := by
  unfold halfL at h
  injection h with h1 h2
  injection h2 with h2 _
  have h1 := congrArg UInt8.toNat h1
  have h2 := congrArg UInt8.toNat h2
  rw [UInt8.toNat_ofNat', UInt8.toNat_ofNat'] at h1 h2
  omega
theorem encR_inj {c h c' h' : Nat} {x : Rec} {s s' : List UInt8} (hc : c ≤ 65535) (hh : h ≤ 65535) (hc' : c' ≤ 65535) (hh' : h' ≤ 65535) (e : encR c h x ++ s = encR c' h' x ++ s') : c = c' ∧ h = h' ∧ s = s' := by
  obtain ⟨e1, e2⟩ := List.append_inj e (by rw [encR_len, encR_len])
  unfold encR at e1
  simp only [List.append_assoc] at e1
  obtain ⟨e3, e4⟩ := List.append_inj e1 rfl
  obtain ⟨e5, _⟩ := List.append_inj e4 rfl
  exact ⟨halfL_inj hc hc' e3, halfL_inj hh hh' e5, e2⟩
/-- The two ways. -/
theorem goP_of (n : Nat) : ∀ (r : List UInt8) (t : List Rec) (cy hd : Nat), r.length ≤ n → cy ≤ 65535 → hd ≤ 65535 →
    (∀ q, goP t cy hd r = some q → goQ t cy hd r = some q) ∧
    (∀ cy' hd' t' r', goQ t cy hd r = some (cy', hd', t', r') → cy' ≤ 65535 ∧ hd' ≤ 65535 ∧ (t.length ≠ 0 → cy' = cy ∧ hd' = hd) ∧ ∃ u, t' = t ++ u ∧ (∀ x ∈ u, x.bad = false) ∧ r.length = (encL cy' hd' u).length + r'.length ∧ r.drop (encL cy' hd' u).length = r' ∧
      (encL cy' hd' u ++ r' = r ↔ goP t cy hd r = some (cy', hd', t', r'))) := by
  induction n with
  | zero =>
    intro r t cy hd hr hc hh
    have h8 : ¬ 8 < r.length := by omega
    refine ⟨fun q hq => ?_, fun cy' hd' t' r' hq => ?_⟩
    · rw [goP, dif_neg h8] at hq
      rw [goQ, dif_neg h8]; exact hq
    · rw [goQ, dif_neg h8] at hq
      injection hq with hq
      injection hq with h1 h2
      injection h2 with h2 h3
      injection h3 with h3 h4
      subst h1; subst h2; subst h3; subst h4
      exact ⟨hc, hh, fun _ => ⟨rfl, rfl⟩, [], by simp, by simp, by simp [encL], by simp [encL], by rw [goP, dif_neg h8]; simp [encL]⟩
  | succ n ih =>
    intro r t cy hd hr hc hh
    by_cases h8 : 8 < r.length
    · have hstep := ih (r.drop (pend r)) (t ++ [recOf r]) (if t.length = 0 then hN r 0 else cy) (if t.length = 0 then hN r 2 else hd) (by rw [List.length_drop]; unfold pend; omega)
        (by split; exact hN_lt _ _; exact hc) (by split; exact hN_lt _ _; exact hh)
      obtain ⟨i1, i2⟩ := hstep
      have hA0 : t.length ≠ 0 → (if t.length = 0 then hN r 0 else cy) = cy ∧ (if t.length = 0 then hN r 2 else hd) = hd := fun h => ⟨if_neg h, if_neg h⟩
      have gP := goP.eq_1 t cy hd r
      have gQ := goQ.eq_1 t cy hd r
      rw [dif_pos h8] at gP gQ
      rw [gP, gQ]
      generalize (if t.length = 0 then hN r 0 else cy) = ca at *
      generalize (if t.length = 0 then hN r 2 else hd) = ha at *
      clear gP gQ
      refine ⟨fun q hq => ?_, fun cy' hd' t' r' hq => ?_⟩
      · split at hq
        · cases hq
        · rename_i hn
          rw [if_neg (fun h => hn (Or.inr (Or.inr h)))]
          exact i1 q hq
      · split at hq
        · cases hq
        · rename_i hn
          have hpe : pend r ≤ r.length := by omega
          obtain ⟨j1, j2, j3, u, rfl, j4, j5, j6, j7⟩ := i2 cy' hd' t' r' hq
          have j3 := j3 (by simp)
          have henc := enc_recOf h8 hpe
          have hln : (encR cy' hd' (recOf r)).length = pend r := by
            obtain ⟨e1, e2⟩ := recOf_len hpe
            rw [encR_len, e1, e2]; rfl
          refine ⟨j1, j2, fun ht => ?_, recOf r :: u, by simp, ?_, ?_, ?_, ?_⟩
          · have h := hA0 ht; exact ⟨j3.1.trans h.1, j3.2.trans h.2⟩
          · intro x hx
            rcases List.mem_cons.1 hx with rfl | hx
            · rfl
            · exact j4 x hx
          · rw [List.length_drop] at j5
            simp only [encL, List.flatMap_cons, List.length_append, hln] at *
            omega
          · simp only [encL, List.flatMap_cons, List.length_append, hln]
            rw [← List.drop_drop]
            exact j6
          · constructor
            · intro he
              have he2 : encR cy' hd' (recOf r) ++ (encL cy' hd' u ++ r') = encR (hN r 0) (hN r 2) (recOf r) ++ r.drop (pend r) := by
                rw [henc]
                refine Eq.trans ?_ he
                simp [encL]
              obtain ⟨k1, k2, k3⟩ := encR_inj j1 j2 (hN_lt _ _) (hN_lt _ _) he2
              rw [if_neg]
              · exact j7.1 k3
              · rw [← j3.1, ← j3.2, k1, k2]
                rintro (h | h | h)
                · exact h rfl
                · exact h rfl
                · exact hn h
            · intro he
              split at he
              · cases he
              · rename_i hn2
                have k3 := j7.2 he
                have k1 : hN r 0 = cy' := by
                  rw [j3.1]; exact Classical.byContradiction fun h => hn2 (Or.inl h)
                have k2 : hN r 2 = hd' := by
                  rw [j3.2]; exact Classical.byContradiction fun h => hn2 (Or.inr (Or.inl h))
                rw [← k1, ← k2] at k3 ⊢
                have : encL (hN r 0) (hN r 2) (recOf r :: u) ++ r' = encR (hN r 0) (hN r 2) (recOf r) ++ (encL (hN r 0) (hN r 2) u ++ r') := by simp [encL]
                rw [this, k3, henc]
    · refine ⟨fun q hq => ?_, fun cy' hd' t' r' hq => ?_⟩
      · rw [goP, dif_neg h8] at hq
        rw [goQ, dif_neg h8]; exact hq
      · rw [goQ, dif_neg h8] at hq
        injection hq with hq
        injection hq with h1 h2
        injection h2 with h2 h3
        injection h3 with h3 h4
        subst h1; subst h2; subst h3; subst h4
        exact ⟨hc, hh, fun _ => ⟨rfl, rfl⟩, [], by simp, by simp, by simp [encL], by simp [encL], by rw [goP, dif_neg h8]; simp [encL]⟩
theorem ff8_iff {r : List UInt8} : (r.length = 8 ∧ r.all (· == 255) = true) ↔ r = ff8 := by
  constructor
  · rintro ⟨h1, h2⟩
    have h3 : r = List.replicate 8 255 := List.eq_replicate_iff.2 ⟨h1, fun b hb => by have := List.all_eq_true.1 h2 b hb; simpa using this⟩
    rw [h3]; rfl
  · rintro rfl; exact ⟨rfl, rfl⟩
theorem dec_eq (b : List UInt8) : decP b = decQ b := by
  unfold decP decQ
  obtain ⟨i1, i2⟩ := goP_of b.length b [] 0 0 (Nat.le_refl _) (by omega) (by omega)
  cases hq : goQ [] 0 0 b with
  | none =>
    cases hp : goP [] 0 0 b with
    | none => rfl
    | some q => rw [i1 q hp] at hq; cases hq
  | some q =>
    obtain ⟨cy, hd, t, r⟩ := q
    obtain ⟨j1, j2, _, u, hu, j4, j5, j6, j7⟩ := i2 cy hd t r hq
    rw [List.nil_append] at hu
    subst hu
    have hany : t.any Rec.bad = false := List.any_eq_false.2 fun x hx => by rw [j4 x hx]; decide
    have hE : encE cy hd t = if validB t then 0 else 1 := by
      unfold encE
      rw [if_pos ⟨by omega, by omega, by omega, by omega⟩, hany]
      cases validB t <;> rfl
    dsimp only
    cases hv : validB t
    · rw [hv] at hE
      rw [if_neg (fun h => by rw [hE] at h; exact absurd h.1 (by decide))]
      cases hp : goP [] 0 0 b with
      | none => rfl
      | some q =>
        have := i1 q hp
        rw [hq] at this
        injection this with this
        subst this
        dsimp only
        rw [if_neg (fun h => by rw [hv] at h; exact absurd h.2.1 (by decide))]
    · rw [hv] at hE
      rw [if_pos rfl] at hE
      have hB : encB cy hd t = encL cy hd t ++ ff8 := by
        unfold encB
        rw [hE, if_pos rfl]
        simp
      rw [hE, hB]
      by_cases he : encL cy hd t ++ r = b
      · rw [j7.1 he]
        dsimp only
        by_cases hf : r = ff8
        · have := ff8_iff.2 hf
          rw [if_pos ⟨this.1, hv, this.2⟩, if_pos ⟨rfl, by rw [← hf]; exact he⟩]
        · rw [if_neg (fun h => hf (ff8_iff.1 ⟨h.1, h.2.2⟩)), if_neg (fun h => hf (by have h2 := h.2; rw [← he] at h2; exact (List.append_cancel_left h2).symm))]
      · have hp : goP [] 0 0 b = none := by
          cases hp : goP [] 0 0 b with
          | none => rfl
          | some q =>
            have := i1 q hp
            rw [hq] at this
            injection this with this
            subst this
            exact absurd (j7.2 hp) he
        rw [hp]
        dsimp only
        rw [if_neg]
        rintro ⟨_, h⟩
        apply he
        rw [← j6, ← h, List.drop_left]
/-- An encoded track is read as it was. -/
theorem hN_app {a b : List UInt8} {i : Nat} (h : i + 1 < a.length) : hN (a ++ b) i = hN a i := by
  unfold hN
  rw [List.getD_eq_getElem?_getD, List.getD_eq_getElem?_getD, List.getElem?_append_left (by omega), List.getElem?_append_left (by omega), ← List.getD_eq_getElem?_getD, ← List.getD_eq_getElem?_getD]
theorem halfL_val {n : Nat} (h : n ≤ 65535) : 256 * (UInt8.ofNat (n / 256)).toNat + (UInt8.ofNat (n % 256)).toNat = n := by
  rw [UInt8.toNat_ofNat', UInt8.toNat_ofNat']; omega
theorem enc_read {c h : Nat} {x : Rec} {s : List UInt8} (hc : c ≤ 65535) (hh : h ≤ 65535) (hx : 1 ≤ x.r ∧ x.r ≤ 255 ∧ x.key.length ≤ 255 ∧ x.data.length ≤ 2016) (hb : x.bad = false) :
    hN (encR c h x ++ s) 0 = c ∧ hN (encR c h x ++ s) 2 = h ∧ pend (encR c h x ++ s) = (encR c h x).length ∧ recOf (encR c h x ++ s) = x := by
  obtain ⟨h1, h2, h3, h4⟩ := hx
  have e : encR c h x ++ s = UInt8.ofNat (c / 256) :: UInt8.ofNat (c % 256) :: UInt8.ofNat (h / 256) :: UInt8.ofNat (h % 256) :: UInt8.ofNat x.r.toNat :: UInt8.ofNat x.key.length :: UInt8.ofNat (x.data.length / 256) :: UInt8.ofNat (x.data.length % 256) :: (x.key ++ (x.data ++ s)) := by
    simp [encR, halfL]
  have hkl : kl (encR c h x ++ s) = x.key.length := by
    rw [e]; show (UInt8.ofNat x.key.length).toNat = _
    rw [UInt8.toNat_ofNat']; omega
  have hdl : dl (encR c h x ++ s) = x.data.length := by
    rw [e]; exact halfL_val (by omega)
  refine ⟨by rw [e]; exact halfL_val hc, by rw [e]; exact halfL_val hh, by unfold pend; rw [hkl, hdl, encR_len], ?_⟩
  unfold recOf
  rw [hkl, hdl, e]
  obtain ⟨r, k, d, bd⟩ := x
  dsimp only at *
  subst hb
  have a1 : (UInt8.ofNat r.toNat).toNat = r.toNat := by rw [UInt8.toNat_ofNat']; omega
  congr 1
  · show ((UInt8.ofNat r.toNat).toNat : Int) = r
    rw [a1]; omega
  · simp
  · rw [← List.drop_drop]
    simp
theorem goP_enc {c h : Nat} (hc : c ≤ 65535) (hh : h ≤ 65535) : ∀ (u t : List Rec) (cy hd : Nat), (t.length ≠ 0 → cy = c ∧ hd = h) → (∀ x ∈ u, (1 ≤ x.r ∧ x.r ≤ 255 ∧ x.key.length ≤ 255 ∧ x.data.length ≤ 2016) ∧ x.bad = false) →
    goP t cy hd (encL c h u ++ ff8) = some (if u.length = 0 then cy else c, if u.length = 0 then hd else h, t ++ u, ff8)
  | [], t, cy, hd, _, _ => by
    rw [goP, dif_neg (by simp [encL, ff8])]
    simp [encL]
  | x :: u, t, cy, hd, ht, hu => by
    obtain ⟨hx, hb⟩ := hu x (by simp)
    have e : encL c h (x :: u) ++ ff8 = encR c h x ++ (encL c h u ++ ff8) := by simp [encL]
    obtain ⟨r1, r2, r3, r4⟩ := enc_read (s := encL c h u ++ ff8) hc hh hx hb
    rw [e, goP, dif_pos (by rw [List.length_append, List.length_append, encR_len]; show 8 < _ + (_ + 8); omega), r1, r2, r3, r4]
    have k1 : (if t.length = 0 then c else cy) = c := by
      split
      · rfl
      · rename_i h0; exact (ht h0).1
    have k2 : (if t.length = 0 then h else hd) = h := by
      split
      · rfl
      · rename_i h0; exact (ht h0).2
    rw [k1, k2, if_neg (by rintro (h | h | h); exact h rfl; exact h rfl; rw [List.length_append] at h; omega), List.drop_left, goP_enc hc hh u (t ++ [x]) c h (fun _ => ⟨rfl, rfl⟩) (fun y hy => hu y (by simp [hy]))]
    simp
/-- Decoding undoes encoding. -/
theorem dec_enc {c h : Nat} {t : List Rec} (hc : c ≤ 65535) (hh : h ≤ 65535) (hv : validB t = true) (hb : ∀ x ∈ t, x.bad = false) : decP (encL c h t ++ ff8) = some (if t.length = 0 then 0 else c, if t.length = 0 then 0 else h, t) := by
  unfold decP
  rw [goP_enc hc hh t [] 0 0 (by simp) (fun x hx => by
    obtain ⟨k, hk⟩ := List.mem_iff_getElem?.1 hx
    exact ⟨valid_rec hv hk, hb x hx⟩)]
  dsimp only
  rw [List.nil_append, if_pos ⟨rfl, hv, rfl⟩]
end Go.Proofs.Ytelfihgkbbaifaa
