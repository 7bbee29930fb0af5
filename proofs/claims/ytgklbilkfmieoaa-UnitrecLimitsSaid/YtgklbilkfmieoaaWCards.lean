/- UnitrecCards: the walk. -/
import Derived.Test.YtgklbilkfmieoaaCard
import Derived.Test.YtgklbilkfmieoaaLight
import Derived.Test.YtgklbilkfmieoaaTail3
import Derived.Test.YtgklbilkfmieoaaFrame
namespace Go.Proofs.Ytgklbilkfmieoaa
open Go.RowKit

def deckL (n : Nat) (c : UInt8) : List (List UInt8) := (List.range n).map fun j => cardB j c
theorem deckL_succ (k : Nat) (c : UInt8) : deckL (k + 1) c = deckL k c ++ [cardB k c] := by simp [deckL, List.range_succ]
theorem deckL_len (n : Nat) (c : UInt8) : (deckL n c).length = n := by simp [deckL]
theorem deckL_get (n : Nat) (c : UInt8) (k : Nat) (h : k < n) : (deckL n c)[k]? = some (cardB k c) := by simp [deckL, h]
theorem deckL_80 (n : Nat) (c : UInt8) : ∀ x ∈ deckL n c, x.length = 80 := by
  intro x hx
  obtain ⟨j, _, rfl⟩ := List.mem_map.1 hx
  exact cardB_len j c
theorem deckL_err (n : Nat) (c : UInt8) (h : n ≤ 4096) : addErr [] (deckL n c) = 0 := by
  unfold addErr
  rw [if_neg (by simp [deckL_len]; omega), if_pos]
  rw [List.all_eq_true]
  intro x hx
  simpa using deckL_80 n c x hx
theorem numB_four (k : Nat) (h : k ≤ 16777215) : numB (four k) = k := by
  simp only [numB, four, List.foldl_cons, List.foldl_nil]
  simp only [UInt8.toNat_ofNat']
  omega
theorem rdDo_read {se tk st : Nat} {cs : List (List UInt8)} {x : List UInt8} (h : cs[tk]? = some x) (l : List UInt8) : rdDo se tk st cs 2 l = ((se, tk + 1, st), x, 12, 0) := by
  unfold rdDo rdOwn
  simp [h]
theorem rdDo_none {se tk st : Nat} {cs : List (List UInt8)} (h : cs[tk]? = none) (l : List UInt8) : rdDo se tk st cs 2 l = ((64, tk, st), [], 14, 64) := by
  unfold rdDo rdOwn
  simp [h]
theorem rdDo_stack {se tk st k : Nat} {cs : List (List UInt8)} (hk : k ≤ 16777215) (h : k ≤ tk) : rdDo se tk st cs 35 (four k) = ((se, tk, max st k), [], 12, 0) := by
  unfold rdDo rdOwn
  rw [if_neg (by omega), if_neg (by omega)]
  simp only [numB_four k hk, four_len]
  have : ¬ tk < k := by omega
  simp [this]
theorem rdDo_over {se tk st k : Nat} {cs : List (List UInt8)} (hk : k ≤ 16777215) (h : tk < k) : rdDo se tk st cs 35 (four k) = ((128, tk, st), [], 14, 128) := by
  unfold rdDo rdOwn
  rw [if_neg (by omega), if_neg (by omega)]
  simp only [numB_four k hk, four_len]
  simp [h]

theorem deckRd_of {W : World} {F : List SA} {A : Option Addr} {n c : Nat} {ps : List (Value × List UInt8)} {ds : List (List UInt8)} (h : ps.map Prod.snd = ds) : DeckRd W (rowS 31 1 (.slice A n c) n (ps.map Prod.fst) :: star (ps.map cardS) :: F) A ds :=
  h ▸ DeckRd.own fun _ S => ⟨F, S⟩
/-- Reading a card, and looking at it. -/
theorem rd_read {W w : World} {F : List SA} {rb tk st se : Nat} {cs : List (List UInt8)} {x : List UInt8} (S : SL W (readerS rb se tk st cs :: F) w) (hf : RdFit se tk st cs) (h : cs[tk]? = some x) :
    Calls Try.prog 42 #[.pointer (some ⟨rb, 0, none⟩), .int .i64 2, .slice none 0 0] w fun e w' => RetS W (readerS rb se (tk + 1) st cs :: F) x 12 0 e w' := by
  have := rddo_any rb se tk st cs 2 none [] 0 S (Rd.nil_ (F := _)) (by decide) hf
  rw [rdDo_read h] at this
  exact this

set_option maxRecDepth 100000 in
set_option maxHeartbeats 4000000 in
theorem walk_unitrecCards' (W : World) (xn xr xs c : UInt8) :
    Calls Try.prog 9 #[.agg #[.int .u8 (xn.toNat : Int), .int .u8 (xr.toNat : Int), .int .u8 (xs.toNat : Int), .int .u8 (c.toNat : Int)]] W fun e W' => e = .returned (.bool true) ∧ Below W.heap.size W W' := by
  have h1 := xn.toNat_lt
  have h2 := xr.toNat_lt
  have h3 := xs.toNat_lt
  generalize xn.toNat = n0 at *
  generalize xr.toNat = r0 at *
  generalize xs.toNat = s0 at *
  obtain ⟨n, hn⟩ : ∃ n, n0 % 40 = n := ⟨_, rfl⟩
  obtain ⟨m, hm⟩ : ∃ m, r0 % (n + 1) = m := ⟨_, rfl⟩
  obtain ⟨q, hq⟩ : ∃ q, s0 % (m + 1) = q := ⟨_, rfl⟩
  have e1 : ((n0 : Int) % 40) = (n : Int) := by omega
  have e2 : ((r0 : Int) % ((n : Int) + 1)) = (m : Int) := by rw [← hm]; push_cast; rfl
  have e3 : ((s0 : Int) % ((m : Int) + 1)) = (q : Int) := by rw [← hq]; push_cast; rfl
  have hn39 : n ≤ 39 := by omega
  have hmn : m ≤ n := by have := Nat.mod_lt r0 (show 0 < n + 1 by omega); omega
  have hqm : q ≤ m := by have := Nat.mod_lt s0 (show 0 < m + 1 by omega); omega
  clear hn hm hq
  go_enter Try.func9, Try.ntmps9
  go_wp2_with fail
  simp only [e2, e3]
  refine name_world (P := Code.wp _ _ _ _) ?_
  intro w0 hw0
  have H0 := Lib.hid (SL.cast hw0 ((SL.start W).allocC #[.int .u8 (n0 : Int), .int .u8 (r0 : Int), .int .u8 (s0 : Int), .int .u8 (c.toNat : Int)] 73))
  clear hw0 e1 e2 e3
  generalize W.heap.size = xb at *
  go_loopw [6, 7] (fun o i wr => ∃ (k : Nat) (A : Option Addr) (cc : Nat) (qs : List (Value × List UInt8)), k ≤ n ∧ i = .int .i64 k ∧ o = .slice A k cc ∧ qs.length = k ∧ qs.map Prod.snd = deckL k c ∧
    SL W [rowS 31 1 (.slice A k cc) k (qs.map Prod.fst), star (qs.map cardS), cel xb #[.int .u8 (n0 : Int), .int .u8 (r0 : Int), .int .u8 (s0 : Int), .int .u8 (c.toNat : Int)] 73] wr) (fun _ i _ => n - (intOf i).toNat)
  case atStart => exact ⟨0, none, 0, [], Nat.zero_le _, rfl, rfl, rfl, rfl, H0.out.empty.nil _ _⟩
  case round =>
    obtain ⟨k, A3, c3, qs, hk, rfl, rfl, hq1, hq2, S1⟩ := hrel
    have HQ := Lib.hid (And.intro hq1 hq2)
    have H1 := Lib.hid S1
    clear H0 S1 hq1 hq2
    by_cases hlt : k < n
    · obtain ⟨L1, _, _⟩ := H1.out.s2.look
      go_wp2_with fail
      refine (card_any k c (by omega) H1.out).mono ?_
      rintro e w2 ⟨A2, c2, rfl, S2⟩
      have H2 := Lib.hid S2
      clear S2 L1 H1
      go_wp2_with (at_builtin; refine wpList_pushS rfl _ _ _ rfl deckElem w2 [.slice A2 80 c2] 1 rfl rfl (by simp [Value.oneCell']) _ k _ rfl rfl H2.out.s1 (by unfold maxLen; omega) (by omega) ?_
                   intro A6 c6 w6 S6
                   have H6 := Lib.hid S6
                   clear S6 H2)
      go_roundw
      case rel =>
        refine ⟨k + 1, A6, c6, qs ++ [(.slice A2 80 c2, cardB k c)], by omega, by go_num, rfl, by simp [HQ.out.1], by rw [deckL_succ, ← HQ.out.2]; simp, ?_⟩
        simp only [List.map_append, List.map_cons, List.map_nil]
        exact (SL.snoc (P := cardS (.slice A2 80 c2, cardB k c)) H6.out.b2).s1
      case measure => simp [intOf]; omega
    · obtain rfl : k = n := by omega
      have hdl := deckL_len k c
      have HD := Lib.hid hdl
      have HN := Lib.hid (rnew_any (deckL k c) A3 c3 H1.out (deckRd_of HQ.out.2) (by rw [hdl]; unfold maxLen; omega))
      rw [hdl] at HN
      clear hdl
      go_wp2_with fail
      refine HN.out.mono ?_
      intro e w2 hn
      obtain ⟨rb, rfl, S2⟩ := hn.1 (deckL_err k c (by omega))
      have HF := Lib.hid (fun (se tk st : Nat) (h1 : se < 256) (h2 : tk ≤ k) (h3 : st ≤ tk) => (⟨h1, by rw [HD.out]; omega, by rw [HD.out]; exact h2, h3, deckL_80 k c⟩ : RdFit se tk st (deckL k c)))
      have HG := Lib.hid (fun (j : Nat) (h : j < k) => deckL_get k c j h)
      have HG0 := Lib.hid (show (deckL k c)[k]? = none by rw [List.getElem?_eq_none_iff, HD.out]; exact Nat.le_refl _)
      have H2 := Lib.hid S2
      clear S2 hn HN H1
      have HQ2 := Lib.hid HQ.out.2
      have HQ1 := Lib.hid HQ.out.1
      generalize deckL k c = ds at *
      go_wp2_with fail
      refine (rcards_any rb 0 0 0 ds H2.out).mono ?_
      rw [HD.out]
      rintro e w3 ⟨rfl, rfl⟩
      go_wp2_with fail
      refine (rtaken_any rb 0 0 0 ds H2.out).mono ?_
      rintro e w3 ⟨rfl, rfl⟩
      go_wp2_with fail
      refine (works_any _).mono ?_
      rintro e w3 ⟨rfl, b3⟩
      have H3 := Lib.hid (H2.out.grow b3)
      clear b3 H2
      go_wp2_with fail
      have HQD := Lib.hid HQ2.out
      have HS2 := Lib.hid (show SL W [readerS rb 0 0 0 ds, rowS 31 1 (.slice A3 k c3) k (qs.map Prod.fst), star (qs.map cardS)] w3 from H3.out.s3.drop)
      clear H3
      go_loopw [10] (fun i wr => ∃ j : Nat, 0 ≤ j ∧ j ≤ m ∧ i = .int .i64 j ∧ SL W [readerS rb 0 j 0 ds, rowS 31 1 (.slice A3 k c3) k (qs.map Prod.fst), star (qs.map cardS)] wr) (fun i _ => m - (intOf i).toNat)
      case atStart => exact ⟨0, Nat.le_refl _, by omega, rfl, HS2.out⟩
      case round =>
        obtain ⟨j, hj0, hj, rfl, S4⟩ := hrel
        have H4 := Lib.hid S4
        clear S4 HS2
        by_cases hjl : j < m
        · have hg := HG.out j (by omega)
          go_wp2_with fail
          refine (rd_read H4.out (HF.out 0 j 0 (by omega) (by omega) (by omega)) hg).mono ?_
          rintro e w5 ⟨A5, c5, rfl, S5⟩
          rw [cardB_len] at S5 ⊢
          have H5 := Lib.hid S5
          clear S5 H4 hg
          go_wp2_with fail
          refine name_world (P := Code.wp _ _ _ _) ?_
          intro w6 hw6
          have H6 := Lib.hid (SL.cast hw6 (H5.out.allocC #[.slice A5 80 c5, .int .i64 12, .int .i64 0] 36))
          clear hw6 H5
          generalize w5.heap.size = yb at *
          have hqj : qs[j]? = some (qs[j]'(by rw [HQ.out.1]; omega)) := by simp
          have hqs : (qs[j]'(by rw [HQ.out.1]; omega)).2 = cardB j c := by
            have h1 := HQD.out
            have h2 := HG.out j (by omega)
            rw [← h1, List.getElem?_map, hqj] at h2
            simpa using h2
          obtain ⟨b7, hA3, _, c7⟩ := H6.out.s3.cellAt (j := j) (u := (qs[j]'(by rw [HQ.out.1]; omega)).1) (by rw [List.getElem?_map, hqj]; rfl)
          have hk7 : (qs.map cardS)[j]? = some (rowS 5 1 (qs[j]'(by rw [HQ.out.1]; omega)).1 (qs[j]'(by rw [HQ.out.1]; omega)).2.length (Lib.byteCells (qs[j]'(by rw [HQ.out.1]; omega)).2)) := by rw [List.getElem?_map, hqj]; rfl
          have hg7 : (qs.map Prod.fst)[j]? = some (qs[j]'(by rw [HQ.out.1]; omega)).1 := by rw [List.getElem?_map, hqj]; rfl
          rw [hqs] at hk7
          generalize (qs[j]'(by rw [HQ.out.1]; omega)).1 = v8 at *
          have S8 := SL.take H6.out.s4 hk7
          obtain ⟨A8, c8, rfl, _, _⟩ := own_slice S8.own
          rw [cardB_len] at c7 hk7 S8
          have HA5 := Lib.hid H6.out.s1.at_
          have HA8 := Lib.hid S8.at_
          have z7 := World.block_lt_of_cell? w6 _ c7
          have hfx := H6.out.look
          have HB := Lib.hid (fun (wx : World) (h : Below w6.heap.size w6 wx) => (⟨(h.cell (p := ⟨b7, j, none⟩) z7).trans c7, (H6.out.grow h).look⟩ : wx.cell? ⟨b7, j, none⟩ = some (.slice A8 80 c8) ∧ _))
          subst hA3
          clear hqj hqs hk7 hg7 S8 c7 hfx z7
          have hjk : (j : Int) < (k : Int) := by omega
          have h8080 : (cardB j c).length = 80 := cardB_len j c
          have HSE := Lib.hid (fun (wx : World) (hx : Below w6.heap.size w6 wx) => (by
            have h := same_eq A5 A8 (cardB j c) c5 c8 wx wx.heap.size ((HA5.out.below hx).mono hx.size) ((HA8.out.below hx).mono hx.size) (by rw [h8080]; decide)
            rw [h8080] at h; exact h : Calls Try.prog 24 #[.slice A5 80 c5, .slice A8 80 c8] wx fun e w' => e = .returned (.bool true) ∧ Still wx w'))
          clear h8080
          refine wp_region_below w6.heap.size (by kernel_rfl) (by kernel_rfl) ?_
          repeat (refine wpQuiet_step ?_; intro K hK; go_simp; first | (refine hK _ ?_; clear hK K) | (refine ⟨_, fun wx hx => (fine_any _ 12 0 wx).mono (fun e w' h => ⟨h.1, hx.trans (h.2.mono hx.size)⟩), hK _ ?_⟩; clear hK K) | (refine ⟨_, fun wx hx => (HSE.out wx hx).mono (fun e w' h => ⟨h.1, hx.trans (h.2.below _)⟩), hK _ ?_⟩; clear hK K) | (refine ⟨_, fun wx hx => (by obtain ⟨g0, g1, g2, g3⟩ := HB.out wx hx; go_simp; rfl), hK _ ?_⟩; clear hK K))
          refine wpQuiet_nil ?_
          intro w9 hw9
          have H9 := Lib.hid ((H6.out.grow hw9).drop.drop)
          clear hw9 HB HSE HA5 HA8 H6
          go_wp2
          go_roundw
          case rel => exact ⟨j + 1, by omega, by omega, by go_num, H9.out⟩
          case measure => simp [intOf]; omega
        · obtain rfl : m = j := by omega
          go_wp2_with fail
          refine (lfour_S q (by omega) H4.out).mono ?_
          rintro e w5 ⟨b5, rfl, S5⟩
          have H5 := Lib.hid S5
          clear S5 H4
          go_wp2_with fail
          have hd5 := rddo_any rb 0 m 0 ds 35 (some ⟨b5, 0, none⟩) (four q) 4 H5.out.s1 (fun _ S => S.s1.at_) (by rw [four_len]; decide) (HF.out 0 m 0 (by omega) (by omega) (by omega))
          rw [rdDo_stack (by omega) hqm, Nat.zero_max] at hd5
          refine (show Calls _ _ _ _ _ from hd5).mono ?_
          rintro e w6 ⟨A6, c6, rfl, S6⟩
          have H6 := Lib.hid S6
          clear hd5 S6 H5
          go_wp2_with fail
          refine (fine_any _ 12 0 _).mono ?_
          rintro e w7 ⟨rfl, b7⟩
          have H7 := Lib.hid (H6.out.grow b7).drop
          clear b7 H6
          go_wp2_with fail
          have em : ((m : Int) + 1) = ((m + 1 : Nat) : Int) := by push_cast; rfl
          rw [em]
          refine (lfour_S (m + 1) (by omega) H7.out).mono ?_
          rintro e w8 ⟨b8, rfl, S8⟩
          have H8 := Lib.hid S8
          clear S8 H7 em
          go_wp2_with fail
          have hd8 := rddo_any rb 0 m q ds 35 (some ⟨b8, 0, none⟩) (four (m + 1)) 4 H8.out.s1 (fun _ S => S.s1.at_) (by rw [four_len]; decide) (HF.out 0 m q (by omega) (by omega) (by omega))
          rw [rdDo_over (by omega) (by omega)] at hd8
          refine (show Calls _ _ _ _ _ from hd8).mono ?_
          rintro e w9 ⟨A9, c9, rfl, S9⟩
          have H9 := Lib.hid S9
          clear hd8 S9 H8
          go_wp2_with fail
          refine (fine_any _ 14 128 _).mono ?_
          rintro e w10 ⟨rfl, b10⟩
          have H10 := Lib.hid (H9.out.grow b10).drop
          clear b10 H9
          go_wp2_with fail
          refine (rstacked_any rb 128 m q ds H10.out).mono ?_
          rintro e w11 ⟨rfl, rfl⟩
          go_wp2_with fail
          refine (rtaken_any rb 128 m q ds H10.out).mono ?_
          rintro e w11 ⟨rfl, rfl⟩
          go_wp2_with fail
          refine (rpower_any rb 128 m q ds H10.out).mono ?_
          rintro e w12 ⟨rfl, S12⟩
          have H12 := Lib.hid S12
          clear S12 H10
          go_wp2_with fail
          refine (rtaken_any rb 0 q q ds H12.out).mono ?_
          rintro e w13 ⟨rfl, rfl⟩
          go_wp2_with fail
          refine (rstacked_any rb 0 q q ds H12.out).mono ?_
          rintro e w13 ⟨rfl, rfl⟩
          go_wp2_with fail
          have HS3 := Lib.hid (show SL W [readerS rb 0 q q ds, rowS 31 1 (.slice A3 k c3) k (qs.map Prod.fst), star (qs.map cardS)] w12 from H12.out.s1.drop.s1.drop)
          clear H12
          go_loopw [12] (fun i wr => ∃ j : Nat, q ≤ j ∧ j ≤ k ∧ i = .int .i64 j ∧ SL W [readerS rb 0 j q ds, rowS 31 1 (.slice A3 k c3) k (qs.map Prod.fst), star (qs.map cardS)] wr) (fun i _ => k - (intOf i).toNat)
          case atStart => exact ⟨q, Nat.le_refl _, by omega, rfl, HS3.out⟩
          case round =>
            obtain ⟨j, hj0, hj, rfl, S4⟩ := hrel
            have H4 := Lib.hid S4
            clear S4 HS3
            by_cases hjl : j < k
            · have hg := HG.out j (by omega)
              go_wp2_with fail
              refine (rd_read H4.out (HF.out 0 j q (by omega) (by omega) (by omega)) hg).mono ?_
              rintro e w5 ⟨A5, c5, rfl, S5⟩
              rw [cardB_len] at S5 ⊢
              have H5 := Lib.hid S5
              clear S5 H4 hg
              go_wp2_with fail
              refine name_world (P := Code.wp _ _ _ _) ?_
              intro w6 hw6
              have H6 := Lib.hid (SL.cast hw6 (H5.out.allocC #[.slice A5 80 c5, .int .i64 12, .int .i64 0] 36))
              clear hw6 H5
              generalize w5.heap.size = yb at *
              have hqj : qs[j]? = some (qs[j]'(by rw [HQ.out.1]; omega)) := by simp
              have hqs : (qs[j]'(by rw [HQ.out.1]; omega)).2 = cardB j c := by
                have h1 := HQD.out
                have h2 := HG.out j (by omega)
                rw [← h1, List.getElem?_map, hqj] at h2
                simpa using h2
              obtain ⟨b7, hA3, _, c7⟩ := H6.out.s3.cellAt (j := j) (u := (qs[j]'(by rw [HQ.out.1]; omega)).1) (by rw [List.getElem?_map, hqj]; rfl)
              have hk7 : (qs.map cardS)[j]? = some (rowS 5 1 (qs[j]'(by rw [HQ.out.1]; omega)).1 (qs[j]'(by rw [HQ.out.1]; omega)).2.length (Lib.byteCells (qs[j]'(by rw [HQ.out.1]; omega)).2)) := by rw [List.getElem?_map, hqj]; rfl
              have hg7 : (qs.map Prod.fst)[j]? = some (qs[j]'(by rw [HQ.out.1]; omega)).1 := by rw [List.getElem?_map, hqj]; rfl
              rw [hqs] at hk7
              generalize (qs[j]'(by rw [HQ.out.1]; omega)).1 = v8 at *
              have S8 := SL.take H6.out.s4 hk7
              obtain ⟨A8, c8, rfl, _, _⟩ := own_slice S8.own
              rw [cardB_len] at c7 hk7 S8
              have HA5 := Lib.hid H6.out.s1.at_
              have HA8 := Lib.hid S8.at_
              have z7 := World.block_lt_of_cell? w6 _ c7
              have hfx := H6.out.look
              have HB := Lib.hid (fun (wx : World) (h : Below w6.heap.size w6 wx) => (⟨(h.cell (p := ⟨b7, j, none⟩) z7).trans c7, (H6.out.grow h).look⟩ : wx.cell? ⟨b7, j, none⟩ = some (.slice A8 80 c8) ∧ _))
              subst hA3
              clear hqj hqs hk7 hg7 S8 c7 hfx z7
              have hjk : (j : Int) < (k : Int) := by omega
              have h8080 : (cardB j c).length = 80 := cardB_len j c
              have HSE := Lib.hid (fun (wx : World) (hx : Below w6.heap.size w6 wx) => (by
                have h := same_eq A5 A8 (cardB j c) c5 c8 wx wx.heap.size ((HA5.out.below hx).mono hx.size) ((HA8.out.below hx).mono hx.size) (by rw [h8080]; decide)
                rw [h8080] at h; exact h : Calls Try.prog 24 #[.slice A5 80 c5, .slice A8 80 c8] wx fun e w' => e = .returned (.bool true) ∧ Still wx w'))
              clear h8080
              refine wp_region_below w6.heap.size (by kernel_rfl) (by kernel_rfl) ?_
              repeat (refine wpQuiet_step ?_; intro K hK; go_simp; first | (refine hK _ ?_; clear hK K) | (refine ⟨_, fun wx hx => (fine_any _ 12 0 wx).mono (fun e w' h => ⟨h.1, hx.trans (h.2.mono hx.size)⟩), hK _ ?_⟩; clear hK K) | (refine ⟨_, fun wx hx => (HSE.out wx hx).mono (fun e w' h => ⟨h.1, hx.trans (h.2.below _)⟩), hK _ ?_⟩; clear hK K) | (refine ⟨_, fun wx hx => (by obtain ⟨g0, g1, g2, g3⟩ := HB.out wx hx; go_simp; rfl), hK _ ?_⟩; clear hK K))
              refine wpQuiet_nil ?_
              intro w9 hw9
              have H9 := Lib.hid ((H6.out.grow hw9).drop.drop)
              clear hw9 HB HSE HA5 HA8 H6
              go_wp2
              go_roundw
              case rel => exact ⟨j + 1, by omega, by omega, by go_num, H9.out⟩
              case measure => simp [intOf]; omega
            · obtain rfl : k = j := by omega
              go_wp2_with fail
              have hd1 := rddo_any rb 0 k q ds 2 none [] 0 H4.out Rd.nil_ (by decide) (HF.out 0 k q (by omega) (by omega) (by omega))
              rw [rdDo_none HG0.out] at hd1
              refine (show Calls _ _ _ _ _ from hd1).mono ?_
              rintro e w5 ⟨A5, c5, rfl, S5⟩
              have H5 := Lib.hid S5
              clear hd1 S5 H4
              go_wp2_with fail
              refine name_world (P := fun W => Calls _ _ _ W _) ?_
              intro w6 hw6
              have H6 := Lib.hid (SL.cast hw6 (H5.out.allocC #[.slice A5 0 c5, .int .i64 14, .int .i64 64] 36))
              clear hw6 H5
              generalize w5.heap.size = yb at *
              have hd2 := rddo_any rb 64 k q ds 4 none [] 0 H6.out.s2 Rd.nil_ (by decide) (HF.out 64 k q (by omega) (by omega) (by omega))
              have e4 : rdDo 64 k q ds 4 [] = ((64, k, q), [64], 12, 0) := rfl
              rw [e4] at hd2
              refine (show Calls _ _ _ _ _ from hd2).mono ?_
              rintro e w7 ⟨A7, c7, rfl, S7⟩
              have H7 := Lib.hid S7
              clear hd2 e4 S7 H6
              obtain ⟨Ly, Ky, zy⟩ := H7.out.s2.look
              go_wp2_with fail
              refine name_world (P := fun W => Calls _ _ _ W _) ?_
              intro w8 hw8
              have H8 := Lib.hid (SL.cast hw8 (H7.out.allocC #[.slice A7 1 c7, .int .i64 12, .int .i64 0] 36))
              clear hw8 H7 Ly Ky zy
              generalize w7.heap.size = zb at *
              refine (fine_any _ 14 64 _).mono ?_
              rintro e w9 ⟨rfl, b9⟩
              have H9 := Lib.hid (H8.out.grow b9)
              clear b9 H8
              obtain ⟨L8, K8, z8⟩ := H9.out.look
              obtain ⟨L9, K9, z9⟩ := H9.out.s3.look
              go_wp2_with fail
              refine (fine_any _ 12 0 _).mono ?_
              rintro e w10 ⟨rfl, b10⟩
              have H10 := Lib.hid (H9.out.grow b10)
              clear b10 H9 L8 K8 z8 L9 K9 z9
              obtain ⟨L8, K8, z8⟩ := H10.out.look
              go_wp2_with fail
              refine name_world (P := fun W => Calls _ _ _ W _) ?_
              intro w11 hw11
              have H11 := Lib.hid (SL.cast hw11 (H10.out.lit #[.int .u8 64] 5 1 1 rfl (by decide)))
              clear hw11 H10 L8 K8 z8
              generalize w10.heap.size = vb at *
              refine (same_eq A7 (some ⟨vb, 0, none⟩) [64] c7 1 w11 w11.heap.size H11.out.s2.at_ H11.out.at_ (by decide)).mono ?_
              rintro e w12 ⟨rfl, hs12⟩
              have H12 := Lib.hid (H11.out.still hs12)
              clear hs12 H11
              go_wp2_with fail
              refine (rtaken_any rb 64 k q ds H12.out.s3).mono ?_
              rintro e w13 ⟨rfl, rfl⟩
              go_wp2_with fail
              refine (rcards_any rb 64 k q ds H12.out.s3).mono ?_
              rw [HD.out]
              rintro e w13 ⟨rfl, rfl⟩
              go_wp2
              go_ret
              exact ⟨rfl, H12.out.1⟩
theorem walk_unitrecCards (W : World) (a0 a1 a2 a3 : Int) (h0 : (Lit.int .u8 a0).wf = true) (h1 : (Lit.int .u8 a1).wf = true) (h2 : (Lit.int .u8 a2).wf = true) (h3 : (Lit.int .u8 a3).wf = true) :
    Calls Try.prog 9 #[.agg #[.int .u8 a0, .int .u8 a1, .int .u8 a2, .int .u8 a3]] W fun e W' => e = .returned (.bool true) ∧ Below W.heap.size W W' := by
  obtain ⟨c0, rfl⟩ := u8_of_wf h0
  obtain ⟨c1, rfl⟩ := u8_of_wf h1
  obtain ⟨c2, rfl⟩ := u8_of_wf h2
  obtain ⟨c3, rfl⟩ := u8_of_wf h3
  exact walk_unitrecCards' W c0 c1 c2 c3
end Go.Proofs.Ytgklbilkfmieoaa
