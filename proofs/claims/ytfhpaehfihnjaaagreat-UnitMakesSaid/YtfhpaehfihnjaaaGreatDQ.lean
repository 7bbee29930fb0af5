/- The document's unit: assertions, and its small functions. -/
import Derived.Test.YtfhpaehfihnjaaaGreatDNu
set_option maxRecDepth 100000
namespace Go.Proofs.YtfhpaehfihnjaaaGreat.D
open Go.RowKit
def RecsP (w : World) (A : Option Addr) (ps : List RV) : Prop := ∀ i p, ps[i]? = some p → ∃ g off, A = some ⟨g, off, none⟩ ∧
  w.cell? ⟨g, off + i * 4, none⟩ = some (.int .i64 p.2.r) ∧ w.cell? ⟨g, off + i * 4 + 1, none⟩ = some p.1.1 ∧ w.cell? ⟨g, off + i * 4 + 2, none⟩ = some p.1.2 ∧ w.cell? ⟨g, off + i * 4 + 3, none⟩ = some (.bool p.2.bad) ∧ RecV w p
theorem RecsP.at_ {w : World} {A : Option Addr} {ps : List RV} (h : RecsP w A ps) : RecsAt w A (ps.map Prod.snd) := fun i x hx => by
  rw [List.getElem?_map] at hx
  obtain ⟨p, hp, rfl⟩ := Option.map_eq_some_iff.1 hx
  obtain ⟨g, off, hA, c0, c1, c2, c3, Ak, ck, Ad, cd, e, h1, h2⟩ := h i p hp
  rw [e] at c1 c2
  exact ⟨g, off, Ak, ck, Ad, cd, hA, c0, c1, c2, c3, h1, h2⟩
def trackQ (v : Value) (rs : List Rec) : SA := fun h => ∃ A c, ∃ ps : List RV, v = .slice A rs.length c ∧ rs.length ≤ c ∧ c ≤ maxLen ∧ ps.map Prod.snd = rs ∧ ∀ w : World, (∀ b o, h b = some o → w.heap[b]? = some o) → RecsP w A ps
theorem below_empty (w : World) : Below 0 { w with heap := #[] } w := ⟨rfl, rfl, rfl, Nat.zero_le _, fun k hk => absurd hk (by omega)⟩
theorem star_mem : ∀ {L : List SA} {h : Hp} {i : Nat} {Q : SA}, star L h → L[i]? = some Q → ∃ k, Hp.le k h ∧ Q k
  | [], _, _, _, _, e => by cases e
  | P :: L, h, 0, Q, ⟨h1, h2, p, _, _, l1, _⟩, e => by
    injection e with e; subst e
    exact ⟨h1, l1, p⟩
  | P :: L, h, i + 1, Q, ⟨h1, h2, _, q, _, _, l2⟩, e => by
    obtain ⟨k, l, p⟩ := star_mem (i := i) q (by simpa using e)
    exact ⟨k, Hp.le_trans l l2, p⟩
section
variable {W w : World} {F L : List SA}
theorem recsP_at {A : Option Addr} {n c : Nat} {ps : List RV} (S : SL W (rowS 188 4 (.slice A n c) n (ps.flatMap recCells) :: F) w) (hv : ∀ p ∈ ps, RecV w p) : RecsP w A ps := fun i p hp => by
  have hc := fun k (hk : k < 4) => recCells_get ps i k p hp hk
  obtain ⟨g, hA, _, c0⟩ := S.cellAt (j := i * 4 + 0) (u := .int .i64 p.2.r) (by rw [hc 0 (by omega)]; rfl)
  obtain ⟨g1, hA1, _, c1⟩ := S.cellAt (j := i * 4 + 1) (u := p.1.1) (by rw [hc 1 (by omega)]; rfl)
  obtain ⟨g2, hA2, _, c2⟩ := S.cellAt (j := i * 4 + 2) (u := p.1.2) (by rw [hc 2 (by omega)]; rfl)
  obtain ⟨g3, hA3, _, c3⟩ := S.cellAt (j := i * 4 + 3) (u := .bool p.2.bad) (by rw [hc 3 (by omega)]; rfl)
  rw [hA] at hA1 hA2 hA3
  injection hA1 with hA1; injection hA1 with hA1; subst hA1
  injection hA2 with hA2; injection hA2 with hA2; subst hA2
  injection hA3 with hA3; injection hA3 with hA3; subst hA3
  have e0 : ∀ k, (0 : Nat) + i * 4 + k = i * 4 + k := fun k => by omega
  exact ⟨g, 0, hA, by rw [show (0 : Nat) + i * 4 = i * 4 + 0 by omega]; exact c0, by rw [e0]; exact c1, by rw [e0]; exact c2, by rw [e0]; exact c3, hv p (List.mem_iff_getElem?.2 ⟨i, hp⟩)⟩
theorem trackQ_of {A : Option Addr} {c : Nat} {ps : List RV} (h1 : ps.length ≤ c) (h2 : c ≤ maxLen) (f : ∀ W0 w : World, SL W0 L w → RecsP w A ps) (S : SL W (L ++ F) w) : SL W (trackQ (.slice A ps.length c) (ps.map Prod.snd) :: F) w :=
  S.app.head fun h s => ⟨A, c, ps, by rw [List.length_map], by rw [List.length_map]; exact h1, h2, rfl, fun w hw => f { w with heap := #[] } w ⟨below_empty w, h, s, fun b o e => ⟨Nat.zero_le _, hw b o e⟩⟩⟩
theorem trackQ_recs {v : Value} {rs : List Rec} (S : SL W (recsS v rs :: F) w) : SL W (trackQ v rs :: F) w := by
  obtain ⟨ps, rfl, S1⟩ := recsS_open S
  obtain ⟨A, c, e, h1, h2⟩ := own_slice S1.own
  subst e
  exact trackQ_of (L := [rowS 188 4 (.slice A ps.length c) ps.length (ps.flatMap recCells), star (ps.map recO)]) h1 h2 (fun _ _ S => recsP_at S (recO_v S.s1)) S1
theorem trackQ_nil (S : SL W F w) : SL W (trackQ (.slice none 0 0) [] :: F) w := trackQ_of (L := []) (ps := []) (Nat.le_refl _) (Nat.zero_le _) (fun _ _ _ i p h => by cases h) S
theorem trackQ_len {v : Value} {rs : List Rec} (S : SL W (trackQ v rs :: F) w) : ∃ A c, v = .slice A rs.length c ∧ rs.length ≤ c ∧ c ≤ maxLen :=
  S.pure fun _ p => by obtain ⟨A, c, _, e, h1, h2, _⟩ := p; exact ⟨A, c, e, h1, h2⟩
theorem trackQ_at {A : Option Addr} {n c : Nat} {rs : List Rec} (S : SL W (trackQ (.slice A n c) rs :: F) w) : RecsAt w A rs := by
  obtain ⟨_, h, ⟨h1, h2, ⟨A', c', ps, e, _, _, rfl, p⟩, _, _, l1, _⟩, k⟩ := S
  injection e with e1 _ _
  subst e1
  exact (p w fun b o e => (k b o (l1 b o e)).2).at_
theorem recQ_sel {R : List SA} {i k n c0 : Nat} {A0 : Option Addr} {recs : List Rec} {y : Rec} (hz : L[i]? = some (trackQ (.slice A0 n c0) recs)) (hy : recs[k]? = some y) (S : SL W (star L :: R) w) :
    ∃ (P : SA) (g off ck cd : Nat) (Ak Ad : Option Addr), A0 = some ⟨g, off, none⟩ ∧ SL W (P :: R) w ∧ (∀ R' w', SL W (P :: R') w' → SL W (star L :: R') w') ∧ (∀ R' w', SL W (P :: R') w' →
      w'.cell? ⟨g, off + k * 4, none⟩ = some (.int .i64 y.r) ∧ w'.cell? ⟨g, off + k * 4 + 1, none⟩ = some (.slice Ak y.key.length ck) ∧ w'.cell? ⟨g, off + k * 4 + 2, none⟩ = some (.slice Ad y.data.length cd) ∧ w'.cell? ⟨g, off + k * 4 + 3, none⟩ = some (.bool y.bad) ∧
      CardAt w' Ak y.key ck ∧ CardAt w' Ad y.data cd) := by
  obtain ⟨B, h, ⟨h1, h2, s, r, d, l1, l2⟩, kw⟩ := S
  obtain ⟨hp, lp, A', c', ps, e, _, _, rfl, hP⟩ := star_mem s hz
  injection e with e1 _ _
  subst e1
  rw [List.getElem?_map] at hy
  obtain ⟨p, hpk, rfl⟩ := Option.map_eq_some_iff.1 hy
  have hw1 : ∀ b o, hp b = some o → w.heap[b]? = some o := fun b o e => (kw b o (l1 b o (lp b o e))).2
  obtain ⟨g, off, hA, _, _, _, _, Ak, ck, Ad, cd, ep, _, _⟩ := hP w hw1 k p hpk
  refine ⟨fun h => star L h ∧ ∀ w' : World, (∀ b o, h b = some o → w'.heap[b]? = some o) → w'.cell? ⟨g, off + k * 4, none⟩ = some (.int .i64 p.2.r) ∧ w'.cell? ⟨g, off + k * 4 + 1, none⟩ = some (.slice Ak p.2.key.length ck) ∧ w'.cell? ⟨g, off + k * 4 + 2, none⟩ = some (.slice Ad p.2.data.length cd) ∧ w'.cell? ⟨g, off + k * 4 + 3, none⟩ = some (.bool p.2.bad) ∧
      CardAt w' Ak p.2.key ck ∧ CardAt w' Ad p.2.data cd, g, off, ck, cd, Ak, Ad, hA, ⟨B, h, ⟨h1, h2, ⟨s, fun w' hw' => ?_⟩, r, d, l1, l2⟩, kw⟩, fun R' w' S' => S'.head fun _ q => q.1, fun R' w' S' => ?_⟩
  · obtain ⟨g', off', hA', c0, c1, c2, c3, Ak', ck', Ad', cd', ep', b1, b2⟩ := hP w' (fun b o e => hw' b o (lp b o e)) k p hpk
    rw [hA] at hA'
    injection hA' with hA'; injection hA' with q1 q2; subst q1; subst q2
    rw [ep] at ep'
    injection ep' with q1 q2
    injection q1 with q3 _ q4
    injection q2 with q5 _ q6
    subst q3; subst q4; subst q5; subst q6
    rw [ep] at c1 c2
    exact ⟨c0, c1, c2, c3, b1, b2⟩
  · obtain ⟨_, h', ⟨h3, h4, q, _, _, l3, _⟩, k'⟩ := S'
    exact q.2 w' fun b o e => (k' b o (l3 b o e)).2
def tracksQ (tb : Nat) (ts : List (List Rec)) : SA := fun h => ∃ vs : List Value, vs.length = ts.length ∧ star (cel tb vs.toArray 155 :: star (List.zipWith trackQ vs ts) :: []) h
def lastQ (old : Value) (a n : Int) : Option (Nat × List Rec × Int) → SA
  | none => fun _ => True
  | some (t, b, m) => fun h => (a = (t : Int) ∧ n = m) ∧ star (trackQ old b :: []) h
abbrev qCells (s : DK) (tb : Nat) (ch : Bool) (old : Value) (a n : Int) : Array Value :=
  #[.string s.serial, .int .i64 (s.cyls : Int), .int .i64 (s.heads : Int), .slice (some ⟨tb, 0, none⟩) s.tracks.length s.tracks.length, .int .i64 (s.cyl : Int), .int .i64 (s.head : Int), .int .i64 (s.next : Int), .bool s.found, .int .i64 (s.sense : Int), .bool ch, old, .int .i64 a, .int .i64 n]
def qW (x tb : Nat) (s : DK) (ch : Bool) (old : Value) (a n : Int) : SA := cel x (qCells s tb ch old a n) 157
def qdiskS (x : Nat) (s : DK) : SA := fun h => ∃ (tb : Nat) (old : Value) (a n : Int), star (cel x (qCells s tb s.last.isSome old a n) 157 :: tracksQ tb s.tracks :: lastQ old a n s.last :: []) h
theorem qdisk_open {x : Nat} {s : DK} (S : SL W (qdiskS x s :: F) w) : ∃ tb old a n, SL W (cel x (qCells s tb s.last.isSome old a n) 157 :: tracksQ tb s.tracks :: lastQ old a n s.last :: F) w := by
  obtain ⟨⟨tb, old, a, n⟩, _, S1⟩ := SL.unpack (α := Nat × Value × Int × Int) (φ := fun _ => True) (K := fun p => [cel x (qCells s p.1 s.last.isSome p.2.1 p.2.2.1 p.2.2.2) 157, tracksQ p.1 s.tracks, lastQ p.2.1 p.2.2.1 p.2.2.2 s.last]) S (by
    rintro h ⟨tb, old, a, n, p⟩
    exact ⟨(tb, old, a, n), trivial, p⟩)
  exact ⟨tb, old, a, n, S1⟩
theorem qdisk_close {x tb : Nat} {s : DK} {ch : Bool} {old : Value} {a n : Int} (hc : ch = s.last.isSome) (S : SL W (cel x (qCells s tb ch old a n) 157 :: tracksQ tb s.tracks :: lastQ old a n s.last :: F) w) : SL W (qdiskS x s :: F) w := by
  subst hc
  exact SL.pack (L := [cel x (qCells s tb s.last.isSome old a n) 157, tracksQ tb s.tracks, lastQ old a n s.last]) S fun _ p => ⟨tb, old, a, n, p⟩
theorem lastQ_none (old : Value) (a n : Int) (S : SL W F w) : SL W (lastQ old a n none :: F) w := SL.pack (L := []) S fun _ _ => trivial
theorem lastQ_some {old : Value} {t : Nat} {b : List Rec} {m : Int} (S : SL W (trackQ old b :: F) w) : SL W (lastQ old (t : Int) m (some (t, b, m)) :: F) w := SL.pack (L := [trackQ old b]) S fun _ p => ⟨⟨rfl, rfl⟩, p⟩
theorem lastQ_open {old : Value} {a n : Int} {t : Nat} {b : List Rec} {m : Int} (S : SL W (lastQ old a n (some (t, b, m)) :: F) w) : (a = (t : Int) ∧ n = m) ∧ SL W (trackQ old b :: F) w := by
  obtain ⟨_, h, S1⟩ := SL.unpack (α := Unit) (φ := fun _ => a = (t : Int) ∧ n = m) (K := fun _ => [trackQ old b]) S (fun h p => ⟨(), p.1, p.2⟩)
  exact ⟨h, S1⟩
theorem tracksQ_open {tb : Nat} {ts : List (List Rec)} (S : SL W (tracksQ tb ts :: F) w) : ∃ vs : List Value, vs.length = ts.length ∧ SL W (cel tb vs.toArray 155 :: star (List.zipWith trackQ vs ts) :: F) w := by
  obtain ⟨vs, hv, S1⟩ := SL.unpack (α := List Value) (φ := fun vs => vs.length = ts.length) (K := fun vs => [cel tb vs.toArray 155, star (List.zipWith trackQ vs ts)]) S (by
    rintro h ⟨vs, hv, p⟩
    exact ⟨vs, hv, p⟩)
  exact ⟨vs, hv, S1⟩
theorem tracksQ_close {tb : Nat} {ts : List (List Rec)} {vs : List Value} (hv : vs.length = ts.length) (S : SL W (cel tb vs.toArray 155 :: star (List.zipWith trackQ vs ts) :: F) w) : SL W (tracksQ tb ts :: F) w :=
  SL.pack (L := [cel tb vs.toArray 155, star (List.zipWith trackQ vs ts)]) S fun _ p => ⟨vs, hv, p⟩
theorem zipQ_get {vs : List Value} {ts : List (List Rec)} (hv : vs.length = ts.length) {i : Nat} {t : List Rec} (ht : ts[i]? = some t) : ∃ v, vs[i]? = some v ∧ (List.zipWith trackQ vs ts)[i]? = some (trackQ v t) := by
  have hl := (List.getElem?_eq_some_iff.1 ht).1
  have hv' : vs[i]? = some vs[i] := List.getElem?_eq_getElem (by omega)
  exact ⟨vs[i], hv', by rw [List.getElem?_zipWith, hv', ht]⟩
theorem tracksQ_swap {tb i : Nat} {ts : List (List Rec)} {t t' : List Rec} {v v' : Value} {vs : List Value} (hv : vs.length = ts.length) (ht : ts[i]? = some t) (h1 : vs[i]? = some v) (S1 : SL W (cel tb vs.toArray 155 :: star (List.zipWith trackQ vs ts) :: trackQ v' t' :: F) w) : SL W (trackQ v t :: tracksQ tb (ts.set i t') :: F) (w.setCell ⟨tb, i, none⟩ v') := by
  have h2 : (List.zipWith trackQ vs ts)[i]? = some (trackQ v t) := by rw [List.getElem?_zipWith, h1, ht]
  have hl := (List.getElem?_eq_some_iff.1 ht).1
  have S2 := S1.set (off := i) (v := v') (cs' := (vs.set i v').toArray) (by simp)
  have S3 := S2.s1.take h2
  have S5 : SL W (trackQ v' t' :: star ((List.zipWith trackQ vs ts).eraseIdx i) :: trackQ v t :: cel tb (vs.set i v').toArray 155 :: F) (w.setCell ⟨tb, i, none⟩ v') := by
    exact SL.perm S3 (by
      refine List.Perm.trans (l₂ := trackQ v t :: trackQ v' t' :: star ((List.zipWith trackQ vs ts).eraseIdx i) :: cel tb (vs.set i v').toArray 155 :: F) ?_ ?_
      · refine List.Perm.cons _ ?_
        exact (List.perm_middle (l₁ := [star ((List.zipWith trackQ vs ts).eraseIdx i), cel tb (vs.set i v').toArray 155]) (l₂ := F) (a := trackQ v' t'))
      · exact ((List.Perm.swap _ _ _).trans (List.Perm.cons _ (List.Perm.swap _ _ _))))
  have S6 := S5.put (by rw [List.length_zipWith]; omega)
  have he : (List.zipWith trackQ vs ts).set i (trackQ v' t') = List.zipWith trackQ (vs.set i v') (ts.set i t') := by
    apply List.ext_getElem?
    intro j
    rw [List.getElem?_set, List.getElem?_zipWith, List.getElem?_zipWith, List.getElem?_set, List.getElem?_set, List.length_zipWith]
    by_cases hj : i = j
    · subst hj
      rw [if_pos rfl, if_pos rfl, if_pos rfl, if_pos (by omega), if_pos (by omega), if_pos hl]
    · rw [if_neg hj, if_neg hj, if_neg hj]
  rw [he] at S6
  exact (tracksQ_close (by simp [hv]) S6.s2.s1.s1.s2.s1.s2.s1).s1
theorem selQ_open {x : Nat} {s : DK} (h : s.ok) (S : SL W (qdiskS x s :: F) w) : ∃ (tb : Nat) (old : Value) (a n : Int) (vs : List Value) (A0 : Option Addr) (c0 : Nat), vs.length = s.tracks.length ∧ vs.toArray[s.here]? = some (.slice A0 s.recs.length c0) ∧ (List.zipWith trackQ vs s.tracks)[s.here]? = some (trackQ (.slice A0 s.recs.length c0) s.recs) ∧ s.recs.length ≤ c0 ∧ c0 ≤ maxLen ∧
    SL W (cel x (qCells s tb s.last.isSome old a n) 157 :: cel tb vs.toArray 155 :: star (List.zipWith trackQ vs s.tracks) :: lastQ old a n s.last :: F) w := by
  obtain ⟨tb, old, a, n, S0⟩ := qdisk_open S
  obtain ⟨vs, hvs, S1⟩ := tracksQ_open S0.s1
  obtain ⟨v, hv1, hv2⟩ := zipQ_get hvs h.at_
  obtain ⟨A0, c0, rfl, hlc, hcm⟩ := trackQ_len (S1.s1.take hv2)
  exact ⟨tb, old, a, n, vs, A0, c0, hvs, by simpa using hv1, hv2, hlc, hcm, S1.s2⟩
theorem selQ_close {x tb : Nat} {s : DK} {ch : Bool} {old : Value} {a n : Int} {vs : List Value} (hc : ch = s.last.isSome) (hv : vs.length = s.tracks.length) (S : SL W (cel x (qCells s tb ch old a n) 157 :: cel tb vs.toArray 155 :: star (List.zipWith trackQ vs s.tracks) :: lastQ old a n s.last :: F) w) : SL W (qdiskS x s :: F) w :=
  qdisk_close hc (tracksQ_close hv S.s1.s2.s1).s1
end
def RetQ (W : World) (F : List SA) (x : Nat) (r : DK × Rep) (e : Ending) (w' : World) : Prop :=
  ∃ A c, e = .returned (.agg #[.slice A r.2.1.length c, .int .i64 (r.2.2.1 : Int), .int .i64 (r.2.2.2 : Int)]) ∧ SL W (rowS 5 1 (.slice A r.2.1.length c) r.2.1.length (Lib.byteCells r.2.1) :: qdiskS x r.1 :: F) w'
section
variable {W w : World} {F : List SA} {x tb : Nat} {s : DK} {ch : Bool} {old : Value} {a n : Int}
theorem RetQ.of {r : DK} {st sn : Nat} {w' : World} (S : SL W (qdiskS x r :: F) w') : RetQ W F x (r, [], st, sn) (.returned (.agg #[.slice none 0 0, .int .i64 (st : Int), .int .i64 (sn : Int)])) w' :=
  ⟨none, 0, rfl, S.nil _ _⟩
theorem number_any (A : Option Addr) (b : List UInt8) (m c i : Nat) (w : World) (h : CardAt w A b c) (hn : m = b.length) (h2 : i + 1 < m) : Calls Tryz.prog 143 #[.slice A m c, .int .i64 (i : Int)] w fun e w' => e = .returned (.int .i64 (two b i : Nat)) ∧ Still w w' := by
  subst hn
  have hl : b.length ≤ 9223372036854775807 := by have := h.2; unfold maxLen at this; omega
  obtain ⟨g, off, rfl, _, hc⟩ := h.1 (by intro h; have := congrArg List.length h; rw [byteCells_len] at this; have h4 : b.length = 0 := this; omega)
  have c0 := hc i _ (byteCells_get b i (by omega))
  have c1 := hc (i + 1) _ (byteCells_get b (i + 1) (by omega))
  have e0 : two b i = 256 * b[i].toNat + b[i + 1].toNat := by unfold two; rw [List.getElem?_eq_getElem (by omega), List.getElem?_eq_getElem (by omega)]; rfl
  have HE := Lib.hid e0
  rw [e0]
  have hx0 : b[i].toNat < 256 := UInt8.toNat_lt _
  have hx1 : b[i + 1].toNat < 256 := UInt8.toNat_lt _
  generalize b[i].toNat = x0 at *
  generalize b[i + 1].toNat = x1 at *
  have w1 : IntKind.i64.wrap ((i : Int) + 1) = ((i + 1 : Nat) : Int) := by push_cast; exact IntWalk.i64_in _ (by omega)
  have w2 : IntKind.i64.wrap (256 * (x0 : Int)) = 256 * (x0 : Int) := IntWalk.i64_in _ (by omega)
  have w3 : IntKind.i64.wrap (256 * (x0 : Int) + (x1 : Int)) = ((256 * x0 + x1 : Nat) : Int) := by rw [IntWalk.i64_in _ (by omega)]; omega
  clear hc h e0
  go_enter Tryz.func143, Tryz.ntmps143
  go_wp2
  go_quiet (fail)
  go_wp2
  go_ret
  exact ⟨rfl, by first | exact still_1 _ _ | exact still_2 _ _ _⟩
theorem number_at (A : Option Addr) (b : List UInt8) (m c : Nat) (i : Int) (k : Nat) (hi : i = (k : Int)) (w : World) (h : CardAt w A b c) (hn : m = b.length) (h2 : k + 1 < m) : Calls Tryz.prog 143 #[.slice A m c, .int .i64 i] w fun e w' => e = .returned (.int .i64 (two b k : Nat)) ∧ Below w.heap.size w w' := by
  subst hi
  exact (number_any A b m c k w h hn h2).mono fun e w' q => ⟨q.1, q.2.below _⟩
theorem good_any (A : Option Addr) (n c : Nat) (w : World) : Calls Tryz.prog 124 #[.slice A n c] w fun e w' => e = .returned (.agg #[.slice A n c, .int .i64 12, .int .i64 0]) ∧ Below w.heap.size w w' := by
  go_enter Tryz.func124, Tryz.ntmps124
  go_wp2
  exact bodyPost_ret (v := .agg #[.slice A n c, .int .i64 12, .int .i64 0]) (by simp [results, Tryz.results124, go_sem]) rfl ⟨rfl, by (repeat' (first | (with_reducible exact Below.refl _ _) | (with_reducible assumption) | (with_reducible refine below_drewN ?_ _) | (with_reducible refine Below.drew ?_) | (with_reducible refine Below.alloc ?_ ?_ _) | (with_reducible refine Below.setCell ?_ ?_ _) | (with_reducible refine below_row ?_ ?_ _) | (with_reducible exact Nat.le_refl _) | omega | (simp only [World.size_alloc, World.size_setCell, World.size_drew, World.size_drewN]; omega) | (simp; done) | (simp; omega)))⟩
theorem fail_any (k : Nat) (S : SL W (cel x (qCells s tb ch old a n) 157 :: F) w) : Calls Tryz.prog 130 #[.pointer (some ⟨x, 0, none⟩), .int .i64 (k : Int)] w fun e w' => e = .returned (.agg #[.slice none 0 0, .int .i64 14, .int .i64 (k : Int)]) ∧ SL W (cel x (qCells { s with sense := k } tb ch old a n) 157 :: F) w' := by
  have HS := Lib.hid S
  obtain ⟨L, K, z⟩ := S.look
  clear S
  go_enter Tryz.func130, Tryz.ntmps130
  go_wp2
  refine bodyPost_ret (v := .agg #[.slice none 0 0, .int .i64 14, .int .i64 (k : Int)]) (by simp [results, Tryz.results130, go_sem]) rfl ⟨rfl, ?_⟩
  exact ((HS.out.set (off := 8) (v := .int .i64 (k : Int)) (cs' := qCells { s with sense := k } tb ch old a n) rfl).allocC _ _).drop
theorem qhit_any (i : Nat) (S : SL W (cel x (qCells s tb ch old a n) 157 :: F) w) : Calls Tryz.prog 145 #[.pointer (some ⟨x, 0, none⟩), .int .i64 (i : Int)] w fun e w' => e = .returned (.agg #[.slice none 0 0, .int .i64 76, .int .i64 0]) ∧ SL W (cel x (qCells { s with next := i, found := true } tb ch old a n) 157 :: F) w' := by
  have HS := Lib.hid S
  obtain ⟨L, K, z⟩ := S.look
  clear S
  go_enter Tryz.func145, Tryz.ntmps145
  go_wp2
  refine bodyPost_ret (v := .agg #[.slice none 0 0, .int .i64 76, .int .i64 0]) (by simp [results, Tryz.results145, go_sem]) rfl ⟨rfl, ?_⟩
  exact (((HS.out.set (off := 6) (v := .int .i64 (i : Int)) (cs' := qCells { s with next := i } tb ch old a n) rfl).set (off := 7) (v := .bool true) (cs' := qCells { s with next := i, found := true } tb ch old a n) rfl).allocC _ _).drop
theorem qhere_any (h : s.ok) (S : SL W (cel x (qCells s tb ch old a n) 157 :: F) w) : Calls Tryz.prog 144 #[.pointer (some ⟨x, 0, none⟩)] w fun e w' => e = .returned (.int .i64 (s.here : Int)) ∧ Still w w' := by
  obtain ⟨L, K, z⟩ := S.look
  have hb := h.here_lt
  have hc := h.cy
  have hd := h.hd
  have hc1 := h.c1
  have hh1 := h.h1
  have hnt := h.nt
  have e1 : IntKind.i64.wrap ((s.cyl : Int) * (s.heads : Int)) = (s.cyl : Int) * (s.heads : Int) := IntWalk.i64_in _ (by
    have : s.cyl * s.heads ≤ 64 * 8 := Nat.mul_le_mul (by omega) (by omega)
    have h2 : ((s.cyl * s.heads : Nat) : Int) ≤ 512 := by omega
    have h3 : (0 : Int) ≤ ((s.cyl * s.heads : Nat) : Int) := by omega
    rw [Int.natCast_mul] at h2 h3
    omega)
  have e2 : IntKind.i64.wrap ((s.cyl : Int) * (s.heads : Int) + (s.head : Int)) = (s.here : Int) := by
    have e3 : (s.here : Int) = (s.cyl : Int) * (s.heads : Int) + (s.head : Int) := by unfold DK.here; push_cast; rfl
    rw [← e3]
    exact IntWalk.i64_in _ (by omega)
  clear S h hb hc hd hc1 hh1 hnt
  go_enter Tryz.func144, Tryz.ntmps144
  go_wp2
  go_quiet (fail)
  go_wp2
  go_ret
  exact ⟨rfl, by first | exact still_1 _ _ | exact still_2 _ _ _⟩
theorem qhere_b (h : s.ok) (S : SL W (cel x (qCells s tb ch old a n) 157 :: F) w) : Calls Tryz.prog 144 #[.pointer (some ⟨x, 0, none⟩)] w fun e w' => e = .returned (.int .i64 (s.here : Int)) ∧ Below w.heap.size w w' :=
  (qhere_any h S).mono fun _ _ k => ⟨k.1, k.2.below _⟩
theorem qpower_any (S : SL W (qdiskS x s :: F) w) : Calls Tryz.prog 74 #[.pointer (some ⟨x, 0, none⟩)] w fun e w' => e = .returned (.tuple #[]) ∧ SL W (qdiskS x (dkPower s) :: F) w' := by
  obtain ⟨tb, old, a, n, S1⟩ := qdisk_open S
  have HS := Lib.hid S1
  obtain ⟨L, K, z⟩ := S1.look
  clear S S1
  generalize s.last.isSome = ch at *
  go_enter Tryz.func74, Tryz.ntmps74
  go_wp2
  go_end0
  refine ⟨rfl, qdisk_close (s := dkPower s) (tb := tb) (ch := false) (old := old) (a := a) (n := n) rfl ?_⟩
  have h := (((((HS.out.set (off := 4) (v := .int .i64 0) (cs' := qCells { s with cyl := 0 } tb ch old a n) rfl).set (off := 5) (v := .int .i64 0) (cs' := qCells { s with cyl := 0, head := 0 } tb ch old a n) rfl).set (off := 6) (v := .int .i64 0) (cs' := qCells { s with cyl := 0, head := 0, next := 0 } tb ch old a n) rfl).set (off := 7) (v := .bool false) (cs' := qCells { s with cyl := 0, head := 0, next := 0, found := false } tb ch old a n) rfl).set (off := 8) (v := .int .i64 0) (cs' := qCells { s with cyl := 0, head := 0, next := 0, found := false, sense := 0 } tb ch old a n) rfl).set (off := 9) (v := .bool false) (cs' := qCells { s with cyl := 0, head := 0, next := 0, found := false, sense := 0 } tb false old a n) rfl
  exact (lastQ_none old a n h.s2.drop).b2
end
end Go.Proofs.YtfhpaehfihnjaaaGreat.D
