/- At, Parse, DecP, DecQ, SameR, Wk, Works. -/
import Derived.Test.YtmkndbledppniaaGreatEncP
import Derived.Laws.BitsAllLaws
import Derived.Laws.IdiomStrings
namespace Go.Proofs.YtmkndbledppniaaGreat
open Go.RowKit
/-- word.fits -/
def fitsB (len : Nat) (at_ n : Int) : Bool := decide (0 ≤ at_) && decide (at_ ≤ (len : Int) - n)
theorem fitsB_yes {len : Nat} {at_ n : Int} (h0 : 0 ≤ at_) (h : at_ ≤ (len : Int) - n) : fitsB len at_ n = true := by simp [fitsB, h0, h]
theorem fitsB_no {len : Nat} {at_ n : Int} (h : ¬ (0 ≤ at_ ∧ at_ ≤ (len : Int) - n)) : fitsB len at_ n = false := by
  cases hb : fitsB len at_ n
  · rfl
  · simp [fitsB] at hb; exact absurd hb h

/-- What Half returns of two bytes: the halfword with its sign spread. -/
def half32 (x y : UInt8) : Int := wrap32 (bits BinOp.or IntKind.i16 (IntKind.i16.wrap (IntKind.i16.wrap (x.toNat : Int) * 256)) (IntKind.i16.wrap (y.toNat : Int))) % 4294967296

theorem i16_wrap (n : Int) : IntKind.i16.wrap n = (n + 32768) % 65536 - 32768 := by
  simp only [IntKind.wrap, IntKind.signed, IntKind.bits]
  simp
  split <;> omega
theorem half32_eq (x y : UInt8) : half32 x y = if x.toNat < 128 then ((x.toNat * 256 + y.toNat : Nat) : Int) else ((x.toNat * 256 + y.toNat : Nat) : Int) + 4294901760 := by
  have hx := x.toNat_lt
  have hy := y.toNat_lt
  unfold half32
  have h1 : (BitVec.ofInt 16 (IntKind.i16.wrap (IntKind.i16.wrap (x.toNat : Int) * 256))).toNat = x.toNat * 256 := by
    rw [BitVec.toNat_ofInt, i16_wrap, i16_wrap]
    omega
  have h2 : (BitVec.ofInt 16 (IntKind.i16.wrap (y.toNat : Int))).toNat = y.toNat := by
    rw [BitVec.toNat_ofInt, i16_wrap]
    omega
  have h3 : bits BinOp.or IntKind.i16 (IntKind.i16.wrap (IntKind.i16.wrap (x.toNat : Int) * 256)) (IntKind.i16.wrap (y.toNat : Int)) = IntKind.i16.wrap ((x.toNat * 256 + y.toNat : Nat) : Int) := by
    show IntKind.i16.wrap (((BitVec.ofInt 16 _ ||| BitVec.ofInt 16 _).toNat : Nat) : Int) = _
    rw [BitVec.toNat_or, h1, h2, nat_join 8 _ _ (by omega) (by omega)]
  rw [h3, i16_wrap]
  unfold wrap32
  split <;> omega
/-- The low half of what Half returns. -/
theorem half_low (x y : UInt8) : bits .and .u32 (half32 x y) 65535 = ((x.toNat * 256 + y.toNat : Nat) : Int) ∧ 0 ≤ half32 x y ∧ half32 x y < 4294967296 := by
  have hx := x.toNat_lt
  have hy := y.toNat_lt
  have key : ∀ n : Nat, n < 4294967296 → bits .and .u32 (n : Int) 65535 = ((n % 65536 : Nat) : Int) := fun n hn => by
    rw [show (65535 : Int) = ((65535 : Nat) : Int) from rfl, u32_and_nat n 65535 hn (by omega)]
    congr 1
    exact Nat.and_two_pow_sub_one_eq_mod n 16
  rw [half32_eq]
  split
  · exact ⟨by rw [key _ (by omega)]; omega, by omega, by omega⟩
  · rw [show ((x.toNat * 256 + y.toNat : Nat) : Int) + 4294901760 = ((x.toNat * 256 + y.toNat + 4294901760 : Nat) : Int) by omega]
    exact ⟨by rw [key _ (by omega)]; omega, by omega, by omega⟩

/-- The number in two bytes. -/
def hN (l : List UInt8) (i : Nat) : Nat := 256 * (l.getD i 0).toNat + (l.getD (i + 1) 0).toNat
theorem hN_lt (l : List UInt8) (i : Nat) : hN l i ≤ 65535 := by
  unfold hN
  have h1 := (l.getD i 0).toNat_lt
  have h2 := (l.getD (i + 1) 0).toNat_lt
  omega
theorem hN_eq {l : List UInt8} {i : Nat} (h : i + 1 < l.length) : l[i].toNat * 256 + l[i + 1].toNat = hN l i := by
  unfold hN
  rw [List.getD_eq_getElem?_getD, List.getD_eq_getElem?_getD, List.getElem?_eq_getElem h, List.getElem?_eq_getElem (by omega)]
  simp only [Option.getD_some]; omega
section
variable {W w : World} {F : List SA}
theorem byte_cell {w : World} {A : Option Addr} {l : List UInt8} {i : Nat} (hr : At w w.heap.size A (Lib.byteCells l)) (hi : i < l.length) : ∃ b off, A = some ⟨b, off, none⟩ ∧ w.cell? ⟨b, off + i, none⟩ = some (.int .u8 ((l.getD i 0).toNat : Int)) := by
  obtain ⟨b, off, hA, _, hc⟩ := hr.cell (byteCells_get l i hi)
  refine ⟨b, off, hA, ?_⟩
  rw [hc, List.getD_eq_getElem?_getD, List.getElem?_eq_getElem hi]; rfl
end
end Go.Proofs.YtmkndbledppniaaGreat
namespace Go.Proofs.YtmkndbledppniaaGreat
open Go.RowKit
def kl (r : List UInt8) : Nat := (r.getD 5 0).toNat
def dl (r : List UInt8) : Nat := hN r 6
def pend (r : List UInt8) : Nat := 8 + kl r + dl r
def recOf (r : List UInt8) : Rec := ⟨((r.getD 4 0).toNat : Int), (r.drop 8).take (kl r), (r.drop (8 + kl r)).take (dl r), false⟩
def goP (t : List Rec) (cy hd : Nat) (r : List UInt8) : Option (Nat × Nat × List Rec × List UInt8) :=
  if h : 8 < r.length then
    if hN r 0 ≠ (if t.length = 0 then hN r 0 else cy) ∨ hN r 2 ≠ (if t.length = 0 then hN r 2 else hd) ∨ r.length < pend r then none
    else goP (t ++ [recOf r]) (if t.length = 0 then hN r 0 else cy) (if t.length = 0 then hN r 2 else hd) (r.drop (pend r))
  else some (cy, hd, t, r)
termination_by r.length
decreasing_by rw [List.length_drop]; unfold pend; omega
def goQ (t : List Rec) (cy hd : Nat) (r : List UInt8) : Option (Nat × Nat × List Rec × List UInt8) :=
  if h : 8 < r.length then
    if r.length < pend r then none
    else goQ (t ++ [recOf r]) (if t.length = 0 then hN r 0 else cy) (if t.length = 0 then hN r 2 else hd) (r.drop (pend r))
  else some (cy, hd, t, r)
termination_by r.length
decreasing_by rw [List.length_drop]; unfold pend; omega
def decP (b : List UInt8) : Option (Nat × Nat × List Rec) := match goP [] 0 0 b with
  | none => none
  | some (cy, hd, t, r) => if r.length = 8 ∧ validB t = true ∧ r.all (· == 255) = true then some (cy, hd, t) else none
def decQ (b : List UInt8) : Option (Nat × Nat × List Rec) := match goQ [] 0 0 b with
  | none => none
  | some (cy, hd, t, _) => if encE cy hd t = 0 ∧ encB cy hd t = b then some (cy, hd, t) else none
theorem getD_of {l : List UInt8} {i : Nat} (h : i < l.length) : l.getD i 0 = l[i] := by rw [List.getD_eq_getElem?_getD, List.getElem?_eq_getElem h]; rfl
theorem halfL_hN {l : List UInt8} {i : Nat} : halfL (hN l i) = [l.getD i 0, l.getD (i + 1) 0] := by
  have h1 := (l.getD i 0).toNat_lt
  have h2 := (l.getD (i + 1) 0).toNat_lt
  unfold halfL hN
  rw [show (256 * (l.getD i 0).toNat + (l.getD (i + 1) 0).toNat) / 256 = (l.getD i 0).toNat by omega, show (256 * (l.getD i 0).toNat + (l.getD (i + 1) 0).toNat) % 256 = (l.getD (i + 1) 0).toNat by omega, UInt8.ofNat_toNat, UInt8.ofNat_toNat]
theorem drop_cons {l : List UInt8} {i : Nat} (h : i < l.length) : l.drop i = l.getD i 0 :: l.drop (i + 1) := by rw [getD_of h, List.drop_eq_getElem_cons h]
theorem recOf_len {r : List UInt8} (h : pend r ≤ r.length) : (recOf r).key.length = kl r ∧ (recOf r).data.length = dl r := by
  unfold pend at h
  simp only [recOf, List.length_take, List.length_drop]
  omega
/-- What was read is what lies there. -/
theorem enc_recOf {r : List UInt8} (h8 : 8 < r.length) (h : pend r ≤ r.length) : encR (hN r 0) (hN r 2) (recOf r) ++ r.drop (pend r) = r := by
  obtain ⟨e1, e2⟩ := recOf_len h
  have hk := (r.getD 5 0).toNat_lt
  have e3 : UInt8.ofNat (recOf r).r.toNat = r.getD 4 0 := by simp only [recOf, Int.toNat_natCast, UInt8.ofNat_toNat]
  have e4 : UInt8.ofNat (kl r) = r.getD 5 0 := by simp only [kl, UInt8.ofNat_toNat]
  have e5 : halfL (dl r) = [r.getD 6 0, r.getD 7 0] := halfL_hN
  unfold encR
  rw [e1, e2, e3, e4, e5, halfL_hN, halfL_hN]
  have e6 : (recOf r).key ++ ((recOf r).data ++ r.drop (pend r)) = r.drop 8 := by
    have a1 : (recOf r).data ++ r.drop (pend r) = r.drop (8 + kl r) := by
      show (r.drop (8 + kl r)).take (dl r) ++ r.drop (8 + kl r + dl r) = _
      rw [← List.drop_drop (i := dl r), List.take_append_drop]
    rw [a1]
    show (r.drop 8).take (kl r) ++ r.drop (8 + kl r) = _
    rw [← List.drop_drop, List.take_append_drop]
  have e7 : r = r.getD 0 0 :: r.getD 1 0 :: r.getD 2 0 :: r.getD 3 0 :: r.getD 4 0 :: r.getD 5 0 :: r.getD 6 0 :: r.getD 7 0 :: r.drop 8 := by
    have := drop_cons (l := r) (i := 0) (by omega)
    rw [List.drop_zero, drop_cons (i := 0 + 1) (by omega), drop_cons (i := 0 + 1 + 1) (by omega), drop_cons (i := 0 + 1 + 1 + 1) (by omega), drop_cons (i := 0 + 1 + 1 + 1 + 1) (by omega), drop_cons (i := 0 + 1 + 1 + 1 + 1 + 1) (by omega), drop_cons (i := 0 + 1 + 1 + 1 + 1 + 1 + 1) (by omega), drop_cons (i := 0 + 1 + 1 + 1 + 1 + 1 + 1 + 1) (by omega)] at this
    exact this
  simp only [List.append_assoc, List.cons_append, List.nil_append, e6]
  exact e7.symm
theorem halfL_inj {a b : Nat} (ha : a ≤ 65535) (hb : b ≤ 65535) (h : halfL a = halfL b) : a = b := by
  unfold halfL at h
  injection h with h1 h2
  injection h2 with h2 _
  have h1 := congrArg UInt8.toNat h1
  have h2 := congrArg UInt8.toNat h2
  rw [UInt8.toNat_ofNat', UInt8.toNat_ofNat'] at h1 h2
  omega
theorem encR_inj {c h c' h' : Nat} {x : Rec} {s s' : List UInt8} (hc : c ≤ 65535) (hh : h ≤ 65535) (hc' : c' ≤ 65535) (hh' : h' ≤ 65535) (e : encR c h x ++ s = encR c' h' x ++ s') : c = c' ∧ h = h' ∧ s = s' := by
  obtain ⟨e1, e2⟩ := List.append_inj e (by rw [encR_len, encR_len])
  unfold encR at e1
  simp only [List.append_assoc] at e1
  obtain ⟨e3, e4⟩ := List.append_inj e1 rfl
  obtain ⟨e5, _⟩ := List.append_inj e4 rfl
  exact ⟨halfL_inj hc hc' e3, halfL_inj hh hh' e5, e2⟩
/-- The two ways. -/
theorem goP_of (n : Nat) : ∀ (r : List UInt8) (t : List Rec) (cy hd : Nat), r.length ≤ n → cy ≤ 65535 → hd ≤ 65535 →
    (∀ q, goP t cy hd r = some q → goQ t cy hd r = some q) ∧
    (∀ cy' hd' t' r', goQ t cy hd r = some (cy', hd', t', r') → cy' ≤ 65535 ∧ hd' ≤ 65535 ∧ (t.length ≠ 0 → cy' = cy ∧ hd' = hd) ∧ ∃ u, t' = t ++ u ∧ (∀ x ∈ u, x.bad = false) ∧ r.length = (encL cy' hd' u).length + r'.length ∧ r.drop (encL cy' hd' u).length = r' ∧
      (encL cy' hd' u ++ r' = r ↔ goP t cy hd r = some (cy', hd', t', r'))) := by
  induction n with
  | zero =>
    intro r t cy hd hr hc hh
    have h8 : ¬ 8 < r.length := by omega
    refine ⟨fun q hq => ?_, fun cy' hd' t' r' hq => ?_⟩
    · rw [goP, dif_neg h8] at hq
      rw [goQ, dif_neg h8]; exact hq
    · rw [goQ, dif_neg h8] at hq
      injection hq with hq
      injection hq with h1 h2
      injection h2 with h2 h3
      injection h3 with h3 h4
      subst h1; subst h2; subst h3; subst h4
      exact ⟨hc, hh, fun _ => ⟨rfl, rfl⟩, [], by simp, by simp, by simp [encL], by simp [encL], by rw [goP, dif_neg h8]; simp [encL]⟩
  | succ n ih =>
    intro r t cy hd hr hc hh
    by_cases h8 : 8 < r.length
    · have hstep := ih (r.drop (pend r)) (t ++ [recOf r]) (if t.length = 0 then hN r 0 else cy) (if t.length = 0 then hN r 2 else hd) (by rw [List.length_drop]; unfold pend; omega)
        (by split; exact hN_lt _ _; exact hc) (by split; exact hN_lt _ _; exact hh)
      obtain ⟨i1, i2⟩ := hstep
      have hA0 : t.length ≠ 0 → (if t.length = 0 then hN r 0 else cy) = cy ∧ (if t.length = 0 then hN r 2 else hd) = hd := fun h => ⟨if_neg h, if_neg h⟩
      have gP := goP.eq_1 t cy hd r
      have gQ := goQ.eq_1 t cy hd r
      rw [dif_pos h8] at gP gQ
      rw [gP, gQ]
      generalize (if t.length = 0 then hN r 0 else cy) = ca at *
      generalize (if t.length = 0 then hN r 2 else hd) = ha at *
      clear gP gQ
      refine ⟨fun q hq => ?_, fun cy' hd' t' r' hq => ?_⟩
      · split at hq
        · cases hq
        · rename_i hn
          rw [if_neg (fun h => hn (Or.inr (Or.inr h)))]
          exact i1 q hq
      · split at hq
        · cases hq
        · rename_i hn
          have hpe : pend r ≤ r.length := by omega
          obtain ⟨j1, j2, j3, u, rfl, j4, j5, j6, j7⟩ := i2 cy' hd' t' r' hq
          have j3 := j3 (by simp)
          have henc := enc_recOf h8 hpe
          have hln : (encR cy' hd' (recOf r)).length = pend r := by
            obtain ⟨e1, e2⟩ := recOf_len hpe
            rw [encR_len, e1, e2]; rfl
          refine ⟨j1, j2, fun ht => ?_, recOf r :: u, by simp, ?_, ?_, ?_, ?_⟩
          · have h := hA0 ht; exact ⟨j3.1.trans h.1, j3.2.trans h.2⟩
          · intro x hx
            rcases List.mem_cons.1 hx with rfl | hx
            · rfl
            · exact j4 x hx
          · rw [List.length_drop] at j5
            simp only [encL, List.flatMap_cons, List.length_append, hln] at *
            omega
          · simp only [encL, List.flatMap_cons, List.length_append, hln]
            rw [← List.drop_drop]
            exact j6
          · constructor
            · intro he
              have he2 : encR cy' hd' (recOf r) ++ (encL cy' hd' u ++ r') = encR (hN r 0) (hN r 2) (recOf r) ++ r.drop (pend r) := by
                rw [henc]
                refine Eq.trans ?_ he
                simp [encL]
              obtain ⟨k1, k2, k3⟩ := encR_inj j1 j2 (hN_lt _ _) (hN_lt _ _) he2
              rw [if_neg]
              · exact j7.1 k3
              · rw [← j3.1, ← j3.2, k1, k2]
                rintro (h | h | h)
                · exact h rfl
                · exact h rfl
                · exact hn h
            · intro he
              split at he
              · cases he
              · rename_i hn2
                have k3 := j7.2 he
                have k1 : hN r 0 = cy' := by
                  rw [j3.1]; exact Classical.byContradiction fun h => hn2 (Or.inl h)
                have k2 : hN r 2 = hd' := by
                  rw [j3.2]; exact Classical.byContradiction fun h => hn2 (Or.inr (Or.inl h))
                rw [← k1, ← k2] at k3 ⊢
                have : encL (hN r 0) (hN r 2) (recOf r :: u) ++ r' = encR (hN r 0) (hN r 2) (recOf r) ++ (encL (hN r 0) (hN r 2) u ++ r') := by simp [encL]
                rw [this, k3, henc]
    · refine ⟨fun q hq => ?_, fun cy' hd' t' r' hq => ?_⟩
      · rw [goP, dif_neg h8] at hq
        rw [goQ, dif_neg h8]; exact hq
      · rw [goQ, dif_neg h8] at hq
        injection hq with hq
        injection hq with h1 h2
        injection h2 with h2 h3
        injection h3 with h3 h4
        subst h1; subst h2; subst h3; subst h4
        exact ⟨hc, hh, fun _ => ⟨rfl, rfl⟩, [], by simp, by simp, by simp [encL], by simp [encL], by rw [goP, dif_neg h8]; simp [encL]⟩
theorem ff8_iff {r : List UInt8} : (r.length = 8 ∧ r.all (· == 255) = true) ↔ r = ff8 := by
  constructor
  · rintro ⟨h1, h2⟩
    have h3 : r = List.replicate 8 255 := List.eq_replicate_iff.2 ⟨h1, fun b hb => by have := List.all_eq_true.1 h2 b hb; simpa using this⟩
    rw [h3]; rfl
  · rintro rfl; exact ⟨rfl, rfl⟩
theorem dec_eq (b : List UInt8) : decP b = decQ b := by
  unfold decP decQ
  obtain ⟨i1, i2⟩ := goP_of b.length b [] 0 0 (Nat.le_refl _) (by omega) (by omega)
  cases hq : goQ [] 0 0 b with
  | none =>
    cases hp : goP [] 0 0 b with
    | none => rfl
    | some q => rw [i1 q hp] at hq; cases hq
  | some q =>
    obtain ⟨cy, hd, t, r⟩ := q
    obtain ⟨j1, j2, _, u, hu, j4, j5, j6, j7⟩ := i2 cy hd t r hq
    rw [List.nil_append] at hu
    subst hu
    have hany : t.any Rec.bad = false := List.any_eq_false.2 fun x hx => by rw [j4 x hx]; decide
    have hE : encE cy hd t = if validB t then 0 else 1 := by
      unfold encE
      rw [if_pos ⟨by omega, by omega, by omega, by omega⟩, hany]
      cases validB t <;> rfl
    dsimp only
    cases hv : validB t
    · rw [hv] at hE
      rw [if_neg (fun h => by rw [hE] at h; exact absurd h.1 (by decide))]
      cases hp : goP [] 0 0 b with
      | none => rfl
      | some q =>
        have := i1 q hp
        rw [hq] at this
        injection this with this
        subst this
        dsimp only
        rw [if_neg (fun h => by rw [hv] at h; exact absurd h.2.1 (by decide))]
    · rw [hv] at hE
      rw [if_pos rfl] at hE
      have hB : encB cy hd t = encL cy hd t ++ ff8 := by
        unfold encB
        rw [hE, if_pos rfl]
        simp
      rw [hE, hB]
      by_cases he : encL cy hd t ++ r = b
      · rw [j7.1 he]
        dsimp only
        by_cases hf : r = ff8
        · have := ff8_iff.2 hf
          rw [if_pos ⟨this.1, hv, this.2⟩, if_pos ⟨rfl, by rw [← hf]; exact he⟩]
        · rw [if_neg (fun h => hf (ff8_iff.1 ⟨h.1, h.2.2⟩)), if_neg (fun h => hf (by have h2 := h.2; rw [← he] at h2; exact (List.append_cancel_left h2).symm))]
      · have hp : goP [] 0 0 b = none := by
          cases hp : goP [] 0 0 b with
          | none => rfl
          | some q =>
            have := i1 q hp
            rw [hq] at this
            injection this with this
            subst this
            exact absurd (j7.2 hp) he
        rw [hp]
        dsimp only
        rw [if_neg]
        rintro ⟨_, h⟩
        apply he
        rw [← j6, ← h, List.drop_left]
/-- An encoded track is read as it was. -/
theorem hN_app {a b : List UInt8} {i : Nat} (h : i + 1 < a.length) : hN (a ++ b) i = hN a i := by
  unfold hN
  rw [List.getD_eq_getElem?_getD, List.getD_eq_getElem?_getD, List.getElem?_append_left (by omega), List.getElem?_append_left (by omega), ← List.getD_eq_getElem?_getD, ← List.getD_eq_getElem?_getD]
theorem halfL_val {n : Nat} (h : n ≤ 65535) : 256 * (UInt8.ofNat (n / 256)).toNat + (UInt8.ofNat (n % 256)).toNat = n := by
  rw [UInt8.toNat_ofNat', UInt8.toNat_ofNat']; omega
theorem enc_read {c h : Nat} {x : Rec} {s : List UInt8} (hc : c ≤ 65535) (hh : h ≤ 65535) (hx : 1 ≤ x.r ∧ x.r ≤ 255 ∧ x.key.length ≤ 255 ∧ x.data.length ≤ 2016) (hb : x.bad = false) :
    hN (encR c h x ++ s) 0 = c ∧ hN (encR c h x ++ s) 2 = h ∧ pend (encR c h x ++ s) = (encR c h x).length ∧ recOf (encR c h x ++ s) = x := by
  obtain ⟨h1, h2, h3, h4⟩ := hx
  have e : encR c h x ++ s = UInt8.ofNat (c / 256) :: UInt8.ofNat (c % 256) :: UInt8.ofNat (h / 256) :: UInt8.ofNat (h % 256) :: UInt8.ofNat x.r.toNat :: UInt8.ofNat x.key.length :: UInt8.ofNat (x.data.length / 256) :: UInt8.ofNat (x.data.length % 256) :: (x.key ++ (x.data ++ s)) := by
    simp [encR, halfL]
  have hkl : kl (encR c h x ++ s) = x.key.length := by
    rw [e]; show (UInt8.ofNat x.key.length).toNat = _
    rw [UInt8.toNat_ofNat']; omega
  have hdl : dl (encR c h x ++ s) = x.data.length := by
    rw [e]; exact halfL_val (by omega)
  refine ⟨by rw [e]; exact halfL_val hc, by rw [e]; exact halfL_val hh, by unfold pend; rw [hkl, hdl, encR_len], ?_⟩
  unfold recOf
  rw [hkl, hdl, e]
  obtain ⟨r, k, d, bd⟩ := x
  dsimp only at *
  subst hb
  have a1 : (UInt8.ofNat r.toNat).toNat = r.toNat := by rw [UInt8.toNat_ofNat']; omega
  congr 1
  · show ((UInt8.ofNat r.toNat).toNat : Int) = r
    rw [a1]; omega
  · simp
  · rw [← List.drop_drop]
    simp
theorem goP_enc {c h : Nat} (hc : c ≤ 65535) (hh : h ≤ 65535) : ∀ (u t : List Rec) (cy hd : Nat), (t.length ≠ 0 → cy = c ∧ hd = h) → (∀ x ∈ u, (1 ≤ x.r ∧ x.r ≤ 255 ∧ x.key.length ≤ 255 ∧ x.data.length ≤ 2016) ∧ x.bad = false) →
    goP t cy hd (encL c h u ++ ff8) = some (if u.length = 0 then cy else c, if u.length = 0 then hd else h, t ++ u, ff8)
  | [], t, cy, hd, _, _ => by
    rw [goP, dif_neg (by simp [encL, ff8])]
    simp [encL]
  | x :: u, t, cy, hd, ht, hu => by
    obtain ⟨hx, hb⟩ := hu x (by simp)
    have e : encL c h (x :: u) ++ ff8 = encR c h x ++ (encL c h u ++ ff8) := by simp [encL]
    obtain ⟨r1, r2, r3, r4⟩ := enc_read (s := encL c h u ++ ff8) hc hh hx hb
    rw [e, goP, dif_pos (by rw [List.length_append, List.length_append, encR_len]; show 8 < _ + (_ + 8); omega), r1, r2, r3, r4]
    have k1 : (if t.length = 0 then c else cy) = c := by
      split
      · rfl
      · rename_i h0; exact (ht h0).1
    have k2 : (if t.length = 0 then h else hd) = h := by
      split
      · rfl
      · rename_i h0; exact (ht h0).2
    rw [k1, k2, if_neg (by rintro (h | h | h); exact h rfl; exact h rfl; rw [List.length_append] at h; omega), List.drop_left, goP_enc hc hh u (t ++ [x]) c h (fun _ => ⟨rfl, rfl⟩) (fun y hy => hu y (by simp [hy]))]
    simp
/-- Decoding undoes encoding. -/
theorem dec_enc {c h : Nat} {t : List Rec} (hc : c ≤ 65535) (hh : h ≤ 65535) (hv : validB t = true) (hb : ∀ x ∈ t, x.bad = false) : decP (encL c h t ++ ff8) = some (if t.length = 0 then 0 else c, if t.length = 0 then 0 else h, t) := by
  unfold decP
  rw [goP_enc hc hh t [] 0 0 (by simp) (fun x hx => by
    obtain ⟨k, hk⟩ := List.mem_iff_getElem?.1 hx
    exact ⟨valid_rec hv hk, hb x hx⟩)]
  dsimp only
  rw [List.nil_append, if_pos ⟨rfl, hv, rfl⟩]
end Go.Proofs.YtmkndbledppniaaGreat
namespace Go.Proofs.YtmkndbledppniaaGreat
open Go.RowKit
abbrev Dec3 := Option (Nat × Nat × List Rec)
def Dec3.c (o : Dec3) : Nat := match o with | none => 0 | some x => x.1
def Dec3.h (o : Dec3) : Nat := match o with | none => 0 | some x => x.2.1
def Dec3.t (o : Dec3) : List Rec := match o with | none => [] | some x => x.2.2
def Dec3.e (o : Dec3) : Nat := match o with | none => 5 | some _ => 0
def RetD (W : World) (F : List SA) (o : Dec3) (e : Ending) (w' : World) : Prop :=
  ∃ A cp, e = .returned (.tuple #[.int .i64 (o.c : Int), .int .i64 (o.h : Int), .slice A o.t.length cp, .int .i64 (o.e : Int)]) ∧ SL W (recsS (.slice A o.t.length cp) o.t :: F) w'
theorem CardAt.drop {w : World} {b off : Nat} {l : List UInt8} {c : Nat} (h : CardAt w (some ⟨b, off, none⟩) l c) (n : Nat) (hn : n ≤ l.length) (A : Option Addr) (hA : n < l.length → A = some ⟨b, off + n, none⟩) : CardAt w A (l.drop n) (c - n) := by
  refine ⟨fun hne => ?_, by have := h.2.1; rw [List.length_drop]; omega, by have := h.2.2; omega⟩
  have hlt : n < l.length := by
    rcases Nat.lt_or_ge n l.length with h1 | h1
    · exact h1
    · rw [List.drop_of_length_le h1] at hne; exact absurd rfl hne
  have h0 : Lib.byteCells l ≠ [] := fun e => by
    have h2 := congrArg List.length e
    rw [byteCells_len] at h2
    have h3 : l.length = 0 := h2
    omega
  obtain ⟨b2, off2, e, hb, hc⟩ := h.1 h0
  injection e with e; injection e with e1 e2
  subst e1; subst e2
  refine ⟨b, off + n, hA hlt, hb, fun j u hu => ?_⟩
  have : (Lib.byteCells l)[n + j]? = some u := by
    simp only [Lib.byteCells, List.map_drop, List.getElem?_drop] at hu
    exact hu
  rw [Nat.add_assoc]
  exact hc (n + j) u this
section
variable {W w : World} {F : List SA}
theorem RetD.bad {w' : World} (S : SL W F w') : RetD W F none (.returned (.tuple #[.int .i64 0, .int .i64 0, .slice none 0 0, .int .i64 5])) w' :=
  ⟨none, 0, rfl, recsS_close (ps := []) (S.empty.nil _ _)⟩
def no255 (x : UInt8) : Bool := ((x.toNat : Int) != 255)
theorem any8Idx {l : List UInt8} : decide ((0 : Int) ≤ idxV (l.findIdx? no255)) = !(l.all (· == 255)) := by
  have hno : ∀ x, no255 x = !(x == 255) := fun x => by
    unfold no255
    by_cases h : x = 255
    · subst h; rfl
    · have : ¬ ((x.toNat : Int) = 255) := fun e => h (by apply UInt8.toNat_inj.1; show x.toNat = 255; omega)
      have a : ((x.toNat : Int) != 255) = true := by rw [bne_iff_ne]; exact this
      have b : (x == 255) = false := by rw [beq_eq_false_iff_ne]; exact h
      rw [a, b]; rfl
  cases h : l.findIdx? no255 with
  | none =>
    have h2 := List.findIdx?_eq_none_iff.1 h
    have : l.all (· == 255) = true := List.all_eq_true.2 fun x hx => by have := h2 x hx; rw [hno] at this; simpa using this
    rw [this]; rfl
  | some i =>
    rw [List.findIdx?_eq_some_iff_getElem] at h
    obtain ⟨hi, hb, _⟩ := h
    have : l.all (· == 255) = false := List.all_eq_false.2 ⟨_, List.getElem_mem hi, by rw [hno] at hb; simpa using hb⟩
    rw [this]
    exact decide_eq_true (by show (0 : Int) ≤ (i : Int); omega)
end
end Go.Proofs.YtmkndbledppniaaGreat
namespace Go.Proofs.YtmkndbledppniaaGreat
open Go.RowKit
theorem getD_drop {l : List UInt8} {k i : Nat} : (l.drop k).getD i 0 = l.getD (k + i) 0 := by
  rw [List.getD_eq_getElem?_getD, List.getD_eq_getElem?_getD, List.getElem?_drop]
theorem hN_drop {l : List UInt8} {k i : Nat} : hN (l.drop k) i = hN l (k + i) := by
  unfold hN; rw [getD_drop, getD_drop, Nat.add_assoc]
theorem ret_val {a b : Int} (h : a = b) : Value.int .i64 a = .int .i64 b := by rw [h]
section
variable {W w : World} {F : List SA}
end
end Go.Proofs.YtmkndbledppniaaGreat
namespace Go.Proofs.YtmkndbledppniaaGreat
open Go.RowKit
section
variable {W w : World} {F : List SA}
set_option maxRecDepth 100000 in
set_option maxHeartbeats 4000000 in
theorem samerec_any (x : Rec) (Ak Ad Bk Bd : Option Addr) (ck cd dk dd : Nat) (w : World) (h1 : CardAt w Ak x.key ck) (h2 : CardAt w Ad x.data cd) (h3 : CardAt w Bk x.key dk) (h4 : CardAt w Bd x.data dd) :
    Calls Tryz.prog 25 #[.agg #[.int .i64 x.r, .slice Ak x.key.length ck, .slice Ad x.data.length cd, .bool x.bad], .agg #[.int .i64 x.r, .slice Bk x.key.length dk, .slice Bd x.data.length dd, .bool x.bad]] w fun e w' => e = .returned (.bool true) ∧ Below w.heap.size w w' := by
  have BW := Lib.hid (show Below w.heap.size w ((w.alloc (.cells #[.int .i64 x.r, .slice Ak x.key.length ck, .slice Ad x.data.length cd, .bool x.bad] 62)).alloc (.cells #[.int .i64 x.r, .slice Bk x.key.length dk, .slice Bd x.data.length dd, .bool x.bad] 62)) by (repeat' (first | (with_reducible exact Below.refl _ _) | (with_reducible assumption) | (with_reducible refine below_drewN ?_ _) | (with_reducible refine Below.drew ?_) | (with_reducible refine Below.alloc ?_ ?_ _) | (with_reducible refine Below.setCell ?_ ?_ _) | (with_reducible refine below_row ?_ ?_ _) | (with_reducible exact Nat.le_refl _) | omega | (simp only [World.size_alloc, World.size_setCell, World.size_drew, World.size_drewN]; omega) | (simp; done) | (simp; omega))))
  have HC := Lib.hid (fun (l : List UInt8) (A : Option Addr) (c : Nat) (h : CardAt w A l c) => run_string_of_at (P := Tryz.prog) (w := ((w.alloc (.cells #[.int .i64 x.r, .slice Ak x.key.length ck, .slice Ad x.data.length cd, .bool x.bad] 62)).alloc (.cells #[.int .i64 x.r, .slice Bk x.key.length dk, .slice Bd x.data.length dd, .bool x.bad] 62))) 34 9 5 Tryz.underlying34 Tryz.underlying5 Tryz.underlying9 l c (h.grow BW.out).1)
  have s1 := HC.out _ _ _ h1
  have s2 := HC.out _ _ _ h2
  have s3 := HC.out _ _ _ h3
  have s4 := HC.out _ _ _ h4
  clear h1 h2 h3 h4
  obtain ⟨r, k, d, b⟩ := x
  dsimp only at *
  have hbb : (b == b) = true := by simp
  generalize (⟨k.toArray⟩ : ByteArray) = sk at *
  generalize (⟨d.toArray⟩ : ByteArray) = sd at *
  have hk : (sk.toList == sk.toList) = true := by simp
  have hd : (sd.toList == sd.toList) = true := by simp
  go_enter Tryz.func25, Tryz.ntmps25
  go_wp2
  go_ret
  exact ⟨rfl, BW.out⟩
set_option maxRecDepth 100000 in
set_option maxHeartbeats 4000000 in
theorem same_any (A B : Option Addr) (t : List Rec) (c d : Nat) (w : World) (ha : RecsAt w A t) (hb : RecsAt w B t) (hl : t.length ≤ 8192) :
    Calls Tryz.prog 10 #[.slice A t.length c, .slice B t.length d] w fun e w' => e = .returned (.bool true) ∧ Below w.heap.size w w' := by
  have HA := Lib.hid ha
  have HB := Lib.hid hb
  clear ha hb
  go_enter Tryz.func10, Tryz.ntmps10
  go_wp2
  go_loopw [5] (fun i wr => ∃ k : Nat, k ≤ t.length ∧ i = .int .i64 k ∧ Below w.heap.size w wr) (fun i _ => t.length - (intOf i).toNat)
  case atStart => exact ⟨0, Nat.zero_le _, rfl, Below.refl _ _⟩
  case round =>
    obtain ⟨k, hk, rfl, b1⟩ := hrel
    have B1 := Lib.hid b1
    clear b1
    by_cases hlt : k < t.length
    · have hx : t[k]? = some t[k] := by simp [hlt]
      generalize t[k] = x at hx
      obtain ⟨g, off, Ak, ck, Ad, cd, hA, k0, k1, k2, k3, a1, a2⟩ := HA.out k x hx
      obtain ⟨g2, off2, Bk, dk, Bd, dd, hB, m0, m1, m2, m3, a3, a4⟩ := HB.out k x hx
      subst hA; subst hB
      have z0 := World.block_lt_of_cell? w _ k0
      have y0 := World.block_lt_of_cell? w _ m0
      have HL := Lib.hid (fun (wx : World) (hx : Below w.heap.size w wx) => (⟨(hx.cell (p := ⟨g, off + k * 4, none⟩) z0).trans k0, (hx.cell (p := ⟨g, off + k * 4 + 1, none⟩) z0).trans k1, (hx.cell (p := ⟨g, off + k * 4 + 2, none⟩) z0).trans k2, (hx.cell (p := ⟨g, off + k * 4 + 3, none⟩) z0).trans k3⟩ :
        wx.cell? ⟨g, off + k * 4, none⟩ = some (.int .i64 x.r) ∧ wx.cell? ⟨g, off + k * 4 + 1, none⟩ = some (.slice Ak x.key.length ck) ∧ wx.cell? ⟨g, off + k * 4 + 2, none⟩ = some (.slice Ad x.data.length cd) ∧ wx.cell? ⟨g, off + k * 4 + 3, none⟩ = some (.bool x.bad)))
      have HM := Lib.hid (fun (wx : World) (hx : Below w.heap.size w wx) => (⟨(hx.cell (p := ⟨g2, off2 + k * 4, none⟩) y0).trans m0, (hx.cell (p := ⟨g2, off2 + k * 4 + 1, none⟩) y0).trans m1, (hx.cell (p := ⟨g2, off2 + k * 4 + 2, none⟩) y0).trans m2, (hx.cell (p := ⟨g2, off2 + k * 4 + 3, none⟩) y0).trans m3⟩ :
        wx.cell? ⟨g2, off2 + k * 4, none⟩ = some (.int .i64 x.r) ∧ wx.cell? ⟨g2, off2 + k * 4 + 1, none⟩ = some (.slice Bk x.key.length dk) ∧ wx.cell? ⟨g2, off2 + k * 4 + 2, none⟩ = some (.slice Bd x.data.length dd) ∧ wx.cell? ⟨g2, off2 + k * 4 + 3, none⟩ = some (.bool x.bad)))
      have HS := Lib.hid (fun (wx : World) (hx : Below w.heap.size w wx) => samerec_any x Ak Ad Bk Bd ck cd dk dd wx (a1.grow hx) (a2.grow hx) (a3.grow hx) (a4.grow hx))
      clear k0 k1 k2 k3 m0 m1 m2 m3 a1 a2 a3 a4 hx z0 y0
      go_upto_region 6 with fail
      refine wp_region_quiet (C := Below w.heap.size w) (by kernel_rfl) (by kernel_rfl) B1.out.drew ?_
      (repeat (with_reducible refine wpQuiet_step ?_; intro K hK; go_simp; first | (with_reducible refine hK _ ?_; clear hK K) | (rw [if_neg (by decide)]; with_reducible refine hK _ ?_; clear hK K) | (refine ⟨_, fun wx hx => (by obtain ⟨f0, f1, f2, f3⟩ := HL.out wx hx; obtain ⟨g0, g1, g2, g3⟩ := HM.out wx hx; go_simp; with_reducible rfl), hK _ ?_⟩; clear hK K) | (refine ⟨_, fun wx hx => (by with_reducible refine (HS.out wx hx).mono ?_; rintro e w' ⟨rfl, h2⟩; exact ⟨rfl, hx.trans (h2.mono hx.size)⟩), hK _ ?_⟩; clear hK K) | (refine ⟨_, fun _ _ => rfl, hK _ ?_⟩; clear hK K))); with_reducible refine wpQuiet_nil ?_
      intro w3 hw3
      have B3 := Lib.hid hw3
      clear hw3
      go_wp2
      go_roundw
      case rel => exact ⟨k + 1, by omega, by go_num, B3.out⟩
      case measure => simp [intOf]; omega
    · obtain rfl : k = t.length := by omega
      go_wp2
      go_ret
      exact ⟨rfl, B1.out⟩
end
end Go.Proofs.YtmkndbledppniaaGreat
namespace Go.Proofs.YtmkndbledppniaaGreat
open Go.RowKit
theorem bytes_str {P : Program} (w : World) (src dst e : TypeId) (l : List UInt8) (hs : P.underlying src = some .string) (hd : P.underlying dst = some (.slice e)) (he : P.underlying e = some (.int .u8)) (hl : l.length ≤ 140737488355328) :
    ∃ c w', (convert src dst (.string ⟨l.toArray⟩)).run P w = .ok (.slice (some ⟨w.heap.size, 0, none⟩) l.length c) w' ∧ CardAt w' (some ⟨w.heap.size, 0, none⟩) l c ∧ Below w.heap.size w w' := by
  have hz : (⟨l.toArray⟩ : ByteArray).size = l.length := by show l.toArray.size = _; simp
  refine ⟨_, _, (by have h := run_bytes_of_string w src dst e ⟨l.toArray⟩ hs hd he; rw [hz] at h; exact h), ⟨fun _ => ⟨_, 0, rfl, by simp, fun j u hu => ?_⟩, ?_, ?_⟩, ((Below.refl _ _).drew).alloc (Nat.le_refl _) _⟩
  · have hrow : ∀ (C : Array Value) (fr : Nat × Nat), (w.drew.alloc (.cells C e fr)).cell? ⟨w.heap.size, 0 + j, none⟩ = C[j]? := fun C fr => by
      rw [Nat.zero_add]
      exact cell_of_row _ _ j C e fr (heap_alloc_new w.drew _)
    rw [hrow]
    have hb : bytesRow ⟨l.toArray⟩ (grownCap w l.length 0 e) = (Lib.byteCells l).toArray ++ Array.replicate (grownCap w l.length 0 e - l.length) (.int .u8 0) := by
      unfold bytesRow
      rw [hz]
      congr 1
      simp [Lib.byteCells]
    rw [hb, Array.getElem?_append_left (by have := (List.getElem?_eq_some_iff.1 hu).1; simpa using this)]
    simpa using hu
  · exact grownCap_ge w l.length 0 e
  · exact grownCap_le_maxLen w l.length 0 e (by unfold maxLen; omega)
theorem CardAt.far {w : World} {b off : Nat} {l : List UInt8} {c : Nat} (h : CardAt w (some ⟨b, off, none⟩) l c) {p : Addr} (v : Value) (hne : p.block ≠ b) : CardAt (w.setCell p v) (some ⟨b, off, none⟩) l c := by
  refine ⟨fun hx => ?_, h.2⟩
  obtain ⟨b2, off2, e, hb, hc⟩ := h.1 hx
  injection e with e; injection e with e1 e2
  subst e1; subst e2
  exact ⟨b, off, rfl, by rw [World.size_setCell]; exact hb, fun j u hu => (World.cell?_setCell_far w p ⟨b, off + j, none⟩ v hne).trans (hc j u hu)⟩
theorem zeros_made (n : Nat) : Lib.byteCells (List.replicate n 0) = (madeCells (Value.int .u8 0).cells (n * 1)).toList := by
  refine List.ext_getElem? fun j => ?_
  simp only [Lib.byteCells, List.map_replicate, List.getElem?_replicate, Array.getElem?_toList, madeCells, Nat.mul_one]
  by_cases h : j < n
  · rw [if_pos h, Array.getElem?_map, Array.getElem?_range, if_pos h]
    simp only [Option.map_some]
    have h0 : j % (Value.int .u8 0).cells.size = 0 := Nat.mod_one j
    show some (Value.int .u8 0) = some ((Value.int .u8 0).cells[j % (Value.int .u8 0).cells.size]!)
    rw [h0]; rfl
  · rw [if_neg h, Array.getElem?_map, Array.getElem?_range, if_neg h]; rfl
/-- A record whose key and data lie at addresses. -/
abbrev recV (x : Rec) (Ak Ad : Option Addr) (ck cd : Nat) : Value := .agg #[.int .i64 x.r, .slice Ak x.key.length ck, .slice Ad x.data.length cd, .bool x.bad]
section
/-- What at of the law returns. -/
def atB (rs : List Rec) (fr : Int) (key : List UInt8) (high : Bool) (want : Int) : Bool :=
  match searchN rs fr key high with
  | none => decide (want < 0)
  | some i => decide (0 ≤ want) && decide ((i : Int) = want)
end
end Go.Proofs.YtmkndbledppniaaGreat
namespace Go.Proofs.YtmkndbledppniaaGreat
open Go.RowKit
theorem RecV.mk' {w : World} {x : Rec} {Ak Ad : Option Addr} {ck cd : Nat} (h1 : CardAt w Ak x.key ck) (h2 : CardAt w Ad x.data cd) : RecV w ((.slice Ak x.key.length ck, .slice Ad x.data.length cd), x) := ⟨Ak, ck, Ad, cd, rfl, h1, h2⟩
theorem RecV.get {w : World} {x : Rec} {Ak Ad : Option Addr} {nk nd ck cd : Nat} (h : RecV w ((.slice Ak nk ck, .slice Ad nd cd), x)) : CardAt w Ak x.key ck ∧ CardAt w Ad x.data cd := by
  obtain ⟨_, _, _, _, e, h1, h2⟩ := h
  injection e with e1 e2
  injection e1 with e1 _ e1c
  injection e2 with e2 _ e2c
  subst e1; subst e2; subst e1c; subst e2c
  exact ⟨h1, h2⟩
theorem all1 {w : World} {p : RV} (h : RecV w p) : ∀ x ∈ [p], RecV w x := fun x hx => by rw [List.mem_singleton.1 hx]; exact h
theorem all2 {w : World} {p q : RV} (h : RecV w p) (h2 : RecV w q) : ∀ x ∈ [p, q], RecV w x := fun x hx => by
  rcases List.mem_cons.1 hx with rfl | hx
  · exact h
  · exact all1 h2 x hx
theorem all3 {w : World} {p q r : RV} (h : RecV w p) (h2 : RecV w q) (h3 : RecV w r) : ∀ x ∈ [p, q, r], RecV w x := fun x hx => by
  rcases List.mem_cons.1 hx with rfl | hx
  · exact h
  · exact all2 h2 h3 x hx
theorem row_lit {W w : World} {F : List SA} (S : SL W F w) (ps : List RV) (hn : ps.length ≤ 1000) : SL W (rowS 62 4 (.slice (some ⟨w.heap.size, 0, none⟩) ps.length ps.length) ps.length (ps.flatMap recCells) :: F) (w.alloc (.cells (ps.flatMap recCells).toArray 62)) :=
  S.lit (ps.flatMap recCells).toArray 62 4 ps.length (by
    simp only [List.size_toArray]
    clear hn S
    induction ps with
    | nil => rfl
    | cons a l ih => simp only [List.flatMap_cons, List.length_append, ih, List.length_cons, recCells]; simp; omega) (by unfold maxLen; omega)
theorem recs_lit {w : World} (ps : List RV) (hv : ∀ p ∈ ps, RecV w p) (hn : ps.length ≤ 1000) : RecsAt (w.alloc (.cells (ps.flatMap recCells).toArray 62)) (some ⟨w.heap.size, 0, none⟩) (ps.map Prod.snd) :=
  recs_at' (row_lit (SL.start w) ps hn) fun p hp => (hv p hp).grow ((Below.refl _ _).alloc (Nat.le_refl _) _)
section
variable {W w : World} {F : List SA}
theorem valid_lit (w : World) (ps : List RV) (n : Nat) (hn : ps.length = n) (h1000 : n ≤ 1000) (hv : ∀ p ∈ ps, RecV w p) (q : Bool) (hq : validB (ps.map Prod.snd) = q) (hf : ∀ p ∈ ps, p.2.key.length ≤ 1000 ∧ p.2.data.length ≤ 1000) :
    Calls Tryz.prog 44 #[.slice (some ⟨w.heap.size, 0, none⟩) n n] (w.alloc (.cells (ps.flatMap recCells).toArray 62)) fun e w' => e = .returned (.bool q) ∧ Below w.heap.size w w' := by
  subst hq; subst hn
  have h := valid_any (some ⟨w.heap.size, 0, none⟩) (ps.map Prod.snd) ps.length _ (recs_lit ps hv h1000) ⟨by rw [List.length_map]; omega, fun x hx => by
    obtain ⟨p, hp, rfl⟩ := List.mem_map.1 hx
    have := hf p hp; omega⟩
  rw [List.length_map] at h
  refine h.mono ?_
  rintro e w' ⟨he, b⟩
  exact ⟨he, ((Below.refl _ _).alloc (Nat.le_refl _) _).trans (b.mono (by rw [World.size_alloc]; omega))⟩
theorem dec_short {b : List UInt8} (h : b.length < 8) : decP b = none := by
  have e := goP.eq_1 [] 0 0 b
  rw [dif_neg (by omega)] at e
  unfold decP
  rw [e]
  dsimp only
  rw [if_neg (by omega)]
def rA : Rec := ⟨1, [], [], false⟩
def rC : Rec := ⟨3, [], [], false⟩
def rD : Rec := ⟨2, [67], [120, 121], false⟩
def t3 : List Rec := [⟨1, [65], [112], false⟩, ⟨2, [67], [120, 121], false⟩, ⟨3, [69], [113], false⟩]
theorem t3fit : Fit t3 := ⟨by decide, fun x hx => by simp only [t3, List.mem_cons, List.not_mem_nil, or_false] at hx; rcases hx with rfl | rfl | rfl <;> decide⟩
end
end Go.Proofs.YtmkndbledppniaaGreat
