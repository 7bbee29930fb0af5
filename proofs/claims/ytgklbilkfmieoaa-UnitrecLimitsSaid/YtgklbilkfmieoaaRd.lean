/- The reader of the program: Add, NewReader and the small ones. -/
import Derived.Test.YtgklbilkfmieoaaDeckS
import Derived.IntWalk
namespace Go.Proofs.Ytgklbilkfmieoaa
open Go.RowKit

/-- What can be read as a list of cards in every world of the assertions F: the same slices in each. -/
def DeckRd (W : World) (F : List SA) (A : Option Addr) (cs : List (List UInt8)) : Prop :=
  ∃ (b off : Nat) (f : Nat → Option Addr × Nat), ∀ w, SL W F w → ∀ (j : Nat) (x : List UInt8), cs[j]? = some x → A = some ⟨b, off, none⟩ ∧ w.cell? ⟨b, off + j, none⟩ = some (.slice (f j).1 x.length (f j).2) ∧ At w w.heap.size (f j).1 (Lib.byteCells x) ∧ x.length ≤ (f j).2 ∧ (f j).2 ≤ maxLen
theorem DeckRd.get {W : World} {F : List SA} {A : Option Addr} {cs : List (List UInt8)} (h : DeckRd W F A cs) (w : World) (S : SL W F w) (j : Nat) (x : List UInt8) (hj : cs[j]? = some x) :
    ∃ b off A' c', A = some ⟨b, off, none⟩ ∧ w.cell? ⟨b, off + j, none⟩ = some (.slice A' x.length c') ∧ At w w.heap.size A' (Lib.byteCells x) ∧ x.length ≤ c' ∧ c' ≤ maxLen := by
  obtain ⟨b, off, f, h⟩ := h
  exact ⟨b, off, _, _, h w S j x hj⟩
/-- .. and the same in all of them. -/
theorem DeckRd.fix {W : World} {F : List SA} {A : Option Addr} {cs : List (List UInt8)} (h : DeckRd W F A cs) (w0 : World) (S0 : SL W F w0) (j : Nat) (x : List UInt8) (hj : cs[j]? = some x) :
    ∃ b off A' c', A = some ⟨b, off, none⟩ ∧ x.length ≤ c' ∧ c' ≤ maxLen ∧ ∀ w, SL W F w → w.cell? ⟨b, off + j, none⟩ = some (.slice A' x.length c') ∧ At w w.heap.size A' (Lib.byteCells x) := by
  obtain ⟨b, off, f, h⟩ := h
  obtain ⟨h1, _, _, h4, h5⟩ := h w0 S0 j x hj
  exact ⟨b, off, _, _, h1, h4, h5, fun w S => ⟨(h w S j x hj).2.1, (h w S j x hj).2.2.1⟩⟩
theorem DeckRd.own {W : World} {F : List SA} {A : Option Addr} {n c : Nat} {ps : List (Value × List UInt8)} (f : ∀ w, SL W F w → ∃ r, SL W (rowS 31 1 (.slice A n c) n (ps.map Prod.fst) :: star (ps.map cardS) :: r) w) : DeckRd W F A (ps.map Prod.snd) := by
  refine ⟨(A.map fun a => a.block).getD 0, 0, fun j => match ps[j]? with | some (.slice B _ c', _) => (B, c') | _ => (none, 0), fun w S j x hj => ?_⟩
  obtain ⟨r, S8⟩ := f w S
  rw [List.getElem?_map] at hj
  cases hp : ps[j]? with
  | none => rw [hp] at hj; cases hj
  | some p =>
    rw [hp] at hj; injection hj with hj; subst hj
    obtain ⟨b7, rfl, _, c7⟩ := S8.cellAt (j := j) (u := p.1) (by rw [List.getElem?_map, hp]; rfl)
    have S9 := SL.take S8.s1 (i := j) (P := cardS p) (by rw [List.getElem?_map, hp]; rfl)
    unfold cardS at S9
    obtain ⟨A8, c8, e8, h8, h9⟩ := own_slice S9.own
    obtain ⟨v, y⟩ := p
    dsimp only at e8
    subst e8
    simp only [hp, Nat.zero_add]
    exact ⟨rfl, c7, S9.at_, h8, h9⟩
theorem DeckRd.base {W : World} {F : List SA} {A : Option Addr} {l : List CardV} (h : At W W.heap.size A (l.map cardV)) (hg : ∀ x ∈ l, CardV.good W W.heap.size x) : DeckRd W F A (l.map fun x => x.2.1) := by
  refine ⟨(A.map fun a => a.block).getD 0, (A.map fun a => a.off).getD 0, fun j => match l[j]? with | some y => (y.1, y.2.2) | none => (none, 0), fun w S j x hj => ?_⟩
  rw [List.getElem?_map] at hj
  cases hl : l[j]? with
  | none => rw [hl] at hj; cases hj
  | some y =>
    rw [hl] at hj; injection hj with hj; subst hj
    obtain ⟨b, off, rfl, hb, hc⟩ := h.cell (k := j) (u := cardV y) (by simp [hl])
    have hy := hg y (List.mem_iff_getElem?.2 ⟨j, hl⟩)
    simp only [hl]
    exact ⟨rfl, (S.1.cell (p := ⟨b, off + j, none⟩) hb).trans hc, (hy.1.below S.1).mono S.1.size, hy.2.1, hy.2.2⟩
theorem DeckRd.cons {W : World} {F : List SA} {P : SA} {A : Option Addr} {cs : List (List UInt8)} (h : DeckRd W F A cs) : DeckRd W (P :: F) A cs := by
  obtain ⟨b, off, f, h⟩ := h
  exact ⟨b, off, f, fun w S => h w S.drop⟩

def readerS (rb se tk st : Nat) (cs : List (List UInt8)) : SA := fun h => ∃ v, True ∧ star [cel rb #[.int .i64 (se : Int), v, .int .i64 (tk : Int), .int .i64 (st : Int)] 87, deckS v cs] h
def addErr (cs ds : List (List UInt8)) : Int := if 4096 < cs.length + ds.length then 2 else if ds.all (fun x => decide (x.length = 80)) then 0 else 5
def addCs (cs ds : List (List UInt8)) : List (List UInt8) := if addErr cs ds = 0 then cs ++ ds else cs
section
variable {W w : World} {F : List SA}
theorem readerS_open {rb se tk st : Nat} {cs : List (List UInt8)} (S : SL W (readerS rb se tk st cs :: F) w) : ∃ v, True ∧ SL W (cel rb #[.int .i64 (se : Int), v, .int .i64 (tk : Int), .int .i64 (st : Int)] 87 :: deckS v cs :: F) w :=
  S.unpack (K := fun v => [cel rb #[.int .i64 (se : Int), v, .int .i64 (tk : Int), .int .i64 (st : Int)] 87, deckS v cs]) fun _ h => h
theorem readerS_close {rb se tk st : Nat} {cs : List (List UInt8)} {v : Value} (S : SL W (cel rb #[.int .i64 (se : Int), v, .int .i64 (tk : Int), .int .i64 (st : Int)] 87 :: deckS v cs :: F) w) : SL W (readerS rb se tk st cs :: F) w :=
  SL.pack (L := [cel rb #[.int .i64 (se : Int), v, .int .i64 (tk : Int), .int .i64 (st : Int)] 87, deckS v cs]) S fun _ h => ⟨v, trivial, h⟩
/-- A card more (the row at the head has grown by it). -/
theorem deckS_push' {v' : Value} {n : Nat} {ps : List (Value × List UInt8)} {x : Value} {l : List UInt8} (hn : n = ps.length + 1)
    (S : SL W (rowS 5 1 x l.length (Lib.byteCells l) :: star (ps.map cardS) :: rowS 31 1 v' n (ps.map Prod.fst ++ [x]) :: F) w) : SL W (deckS v' (ps.map Prod.snd ++ [l]) :: F) w := by
  have S10 := SL.snoc (P := cardS (x, l)) S
  have e1 : ps.map Prod.snd ++ [l] = (ps ++ [(x, l)]).map Prod.snd := by simp
  rw [e1]
  refine deckS_close' (n := n) (by simp [hn]) ?_
  simp only [List.map_append, List.map_cons, List.map_nil]
  exact S10.s1
theorem radd_nil (v : Value) (w : World) : Calls Try.prog 33 #[.pointer none, v] w fun e w' => e = .returned (.int .i64 9) ∧ w = w' := by
  go_enter Try.func33, Try.ntmps33
  go_wp2
  go_ret
  exact ⟨rfl, rfl⟩
set_option maxHeartbeats 2000000 in
theorem radd_long (rb se tk st : Nat) (cs : List (List UInt8)) (A : Option Addr) (n c : Nat) (S : SL W (readerS rb se tk st cs :: F) w) (hcs : cs.length ≤ 4096) (hn : n ≤ maxLen) (h : 4096 < cs.length + n) :
    Calls Try.prog 33 #[.pointer (some ⟨rb, 0, none⟩), .slice A n c] w fun e w' => e = .returned (.int .i64 2) ∧ w = w' := by
  unfold maxLen at hn
  obtain ⟨v, _, S⟩ := readerS_open S
  obtain ⟨Av, cv, rfl, _, _⟩ := deck_len S.s1
  obtain ⟨L, K, z⟩ := S.look
  have h2 : (4096 : Int) - (cs.length : Int) < (n : Int) := by omega
  have h3 : (0 : Int) ≤ 4096 - (cs.length : Int) := by omega
  clear S h
  go_enter Try.func33, Try.ntmps33
  go_wp2
  go_ret
  exact ⟨rfl, rfl⟩
set_option maxHeartbeats 2000000 in
theorem radd_form (rb se tk st : Nat) (cs ds : List (List UInt8)) (A : Option Addr) (c : Nat) (S : SL W (readerS rb se tk st cs :: F) w) (hr : DeckRd W F A ds) (hcs : cs.length ≤ 4096) (h : cs.length + ds.length ≤ 4096) (h8 : ds.all (fun x => decide (x.length = 80)) = false) :
    Calls Try.prog 33 #[.pointer (some ⟨rb, 0, none⟩), .slice A ds.length c] w fun e w' => e = .returned (.int .i64 5) ∧ w = w' := by
  have HR := Lib.hid (hr.get w S.drop)
  obtain ⟨v, _, S⟩ := readerS_open S
  obtain ⟨Av, cv, rfl, _, _⟩ := deck_len S.s1
  obtain ⟨L, K, z⟩ := S.look
  have h2 : ¬ (4096 : Int) - (cs.length : Int) < (ds.length : Int) := by omega
  have H8 := Lib.hid h8
  clear S hr h8
  go_enter Try.func33, Try.ntmps33
  go_wp2_with fail
  go_loop [22] (fun i => ∃ k : Nat, k ≤ ds.length ∧ i = .int .i64 k ∧ ∀ j x, j < k → ds[j]? = some x → x.length = 80) (fun i => ds.length - (intOf i).toNat)
  case atStart => exact ⟨0, Nat.zero_le _, rfl, by intro j x h; omega⟩
  case round =>
    obtain ⟨k, hk, rfl, hall⟩ := hrel
    have HA := Lib.hid hall
    clear hall
    by_cases hlt : k < ds.length
    · obtain ⟨b, off, A', c', rfl, hc, _, h1, h3⟩ := HR.out k ds[k] (by simp [hlt])
      have HG := Lib.hid (show ds[k]? = some ds[k] by simp [hlt])
      generalize ds[k] = x at *
      unfold maxLen at h3
      by_cases h80 : x.length = 80
      · go_wp2
        go_round
        case rel =>
          refine ⟨k + 1, by omega, by go_num, fun j y hj hy => ?_⟩
          rcases Nat.lt_or_ge j k with h | h
          · exact HA.out j y h hy
          · obtain rfl : j = k := by omega
            rw [HG.out] at hy; injection hy with hy; subst hy; exact h80
        case measure => simp [intOf]; omega
      · have h81 : ¬ (x.length : Int) = 80 := by omega
        go_wp2
        go_ret
        exact ⟨rfl, rfl⟩
    · exfalso
      have h := H8.out
      rw [List.all_eq_false] at h
      obtain ⟨x, hx, hn⟩ := h
      obtain ⟨j, hj, rfl⟩ := List.mem_iff_getElem.1 hx
      exact hn (by simpa using HA.out j ds[j] (by omega) (by simp [hj]))
set_option maxRecDepth 100000 in
set_option maxHeartbeats 2000000 in
theorem radd_ok (rb se tk st : Nat) (cs ds : List (List UInt8)) (A : Option Addr) (c : Nat) (S : SL W (readerS rb se tk st cs :: F) w) (hr : DeckRd W F A ds) (hcs : cs.length ≤ 4096) (h : cs.length + ds.length ≤ 4096) (h8 : ds.all (fun x => decide (x.length = 80)) = true) :
    Calls Try.prog 33 #[.pointer (some ⟨rb, 0, none⟩), .slice A ds.length c] w fun e w' => e = .returned (.int .i64 0) ∧ SL W (readerS rb se tk st (cs ++ ds) :: F) w' := by
  have HR := Lib.hid hr
  have HS := Lib.hid S
  have h80 : ∀ x ∈ ds, x.length = 80 := fun x hx => by simpa using List.all_eq_true.1 h8 x hx
  obtain ⟨v, _, S⟩ := readerS_open S
  obtain ⟨Av, cv, rfl, _, _⟩ := deck_len S.s1
  obtain ⟨L, K, z⟩ := S.look
  have h2 : ¬ (4096 : Int) - (cs.length : Int) < (ds.length : Int) := by omega
  have H8 := Lib.hid h80
  clear S hr h8 h80
  go_enter Try.func33, Try.ntmps33
  go_wp2_with fail
  go_loop [22] (fun i => ∃ k : Nat, k ≤ ds.length ∧ i = .int .i64 k) (fun i => ds.length - (intOf i).toNat)
  case atStart => exact ⟨0, Nat.zero_le _, rfl⟩
  case round =>
    obtain ⟨k, hk, rfl⟩ := hrel
    by_cases hlt : k < ds.length
    · obtain ⟨b, off, A', c', rfl, hc, _, h1, h3⟩ := HR.out.get _ HS.out.drop k ds[k] (by simp [hlt])
      rw [H8.out ds[k] (List.getElem_mem hlt)] at hc
      clear h1 h3
      go_wp2
      go_round
      case rel => exact ⟨k + 1, by omega, by go_num⟩
      case measure => simp [intOf]; omega
    · clear L K z
      go_wp2_with fail
      go_loopw [32] (fun i wr => ∃ k : Nat, k ≤ ds.length ∧ i = .int .i64 k ∧ SL W (readerS rb se tk st (cs ++ ds.take k) :: F) wr) (fun i _ => ds.length - (intOf i).toNat)
      case atStart => exact ⟨0, Nat.zero_le _, rfl, by simpa using HS.out⟩
      case round =>
        obtain ⟨k, hk, rfl, S1⟩ := hrel
        clear HS
        by_cases hlt : k < ds.length
        · obtain ⟨b, off, A', c', rfl, hc, ha, h1, h3⟩ := HR.out.get _ S1.drop k ds[k] (by simp [hlt])
          have hx80 := H8.out ds[k] (List.getElem_mem hlt)
          have HT := Lib.hid (show (cs ++ ds.take k) ++ [ds[k]] = cs ++ ds.take (k + 1) by rw [List.take_succ_eq_append_getElem hlt, List.append_assoc])
          have hlen : (cs ++ ds.take k).length = cs.length + k := by simp; omega
          generalize ds[k] = x at *
          rw [hx80] at hc h1
          obtain ⟨v1, _, S2⟩ := readerS_open S1
          obtain ⟨ps, hps, S3⟩ := deckS_open S2.s1
          have hpl : ps.length = cs.length + k := by rw [← hlen, ← hps, List.length_map]
          obtain ⟨Av1, cv1, rfl, _, _⟩ := own_slice S3.own
          have hpb : ps.length ≤ 4096 := by omega
          have HX := Lib.hid (And.intro hx80 (And.intro hps hpl))
          have HAT := Lib.hid ha
          have H3 := Lib.hid S3
          clear hps hpl hlen hx80 ha S1 S2 S3 h1 h3
          go_wp2_with fail
          refine wp_region_order2 (fun wx => wx = wr.drew) (SL W [cel rb #[.int .i64 (se : Int), .slice Av1 ps.length cv1, .int .i64 (tk : Int), .int .i64 (st : Int)] 87]) (fun wx e => SL.cast e H3.out.s2.only.drew) [0, 1, 2, 3, 5] [4] [] [6, 7, 8] [9, 10, 11] (by kernel_rfl) (by kernel_rfl) rfl (by intro c a d v w h; cases d <;> exact h) ?_
          simp only [pick, List.filterMap_cons, List.filterMap_nil, List.getElem?_cons_zero, List.getElem?_cons_succ]
          (repeat (refine wpPure_step (fun K hK => ?_); go_simp; refine hK _ ?_; clear hK K)); refine wpPure_nil ?_
          (repeat (refine wpLoads_step (fun K hK => ?_); go_simp; first | (refine hK _ ?_; clear hK K) | (refine ⟨_, fun wx hx => (by obtain ⟨f0, f1, f2⟩ := hx.look; go_simp; rfl), hK _ ?_⟩; clear hK K))); refine wpLoads_nil (wpQuiet_nil ?_)
          intro wq hwq
          subst hwq
          refine wpKeep_step (fun K hK => ?_)
          refine step_appS (by rfl) _ _ _ (by rfl) bElem (.slice none 0 0) 0 [] (by rfl) (H3.out.drew.nil _ _) wr.heap.size A' x.length c' (Lib.byteCells x) (by rw [HX.out.1]; rfl) HAT.out (by rw [byteCells_len, Nat.mul_one]) (byteCells_one _) (by rw [HX.out.1]; decide) (by rw [HX.out.1]; omega) ?_
          intro A5 c5 w5 S5
          simp only [Nat.zero_add, List.nil_append] at S5
          simp only [Nat.zero_add]
          have H5 := Lib.hid S5
          refine hK _ _ S5.s3.only ?_
          clear hK K S5 H3
          (refine wpKeep_step ?_; intro K hK; go_simp)
          refine hK _ _ (H5.out.allocC _ _).s4.only ?_
          clear hK K
          refine wpKeep_step (fun K hK => ?_)
          refine step_pushS (by rfl) _ _ _ (by rfl) deckElem w5 [.slice A5 x.length c5] 1 (by rfl) rfl (by simp [Value.oneCell']) _ ps.length _ (by rfl) (by rfl) H5.out.s1 (by unfold maxLen; omega) (by omega) ?_
          intro A6 c6 w6 S6
          have H6 := Lib.hid S6
          refine hK _ _ S6.s3.only ?_
          clear hK K S6 H5
          refine wpKeep_nil ?_
          obtain ⟨L6, K6, z6⟩ := H6.out.s3.look
          go_wp2
          go_roundw
          case rel =>
            refine ⟨k + 1, by omega, by go_num, ?_⟩
            rw [← HT.out, ← HX.out.2.1]
            have S7 := H6.out.s3.set (off := 1) (v := .slice A6 (ps.length + 1) c6) (cs' := #[.int .i64 (se : Int), .slice A6 (ps.length + 1) c6, .int .i64 (tk : Int), .int .i64 (st : Int)]) rfl
            exact readerS_close (deckS_push' rfl S7.s1.s3.s3).s1
          case measure => simp [intOf]; omega
        · obtain rfl : k = ds.length := by omega
          go_wp2
          go_ret
          exact ⟨rfl, by simpa using S1⟩
end
end Go.Proofs.Ytgklbilkfmieoaa
