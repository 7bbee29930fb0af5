/- Decode of the program. -/
import Derived.Test.YtelfihgkbbaifaaParse
namespace Go.Proofs.Ytelfihgkbbaifaa
open Go.RowKit
abbrev Dec3 := Option (Nat × Nat × List Rec)
def Dec3.c (o : Dec3) : Nat := match o with | none => 0 | some x => x.1
def Dec3.h (o : Dec3) : Nat := match o with | none => 0 | some x => x.2.1
def Dec3.t (o : Dec3) : List Rec := match o with | none => [] | some x => x.2.2
def Dec3.e (o : Dec3) : Nat := match o with | none => 5 | some _ => 0
def RetD (W : World) (F : List SA) (o : Dec3) (e : Ending) (w' : World) : Prop :=
  ∃ A cp, e = .returned (.tuple #[.int .i64 (o.c : Int), .int .i64 (o.h : Int), .slice A o.t.length cp, .int .i64 (o.e : Int)]) ∧ SL W (recsS (.slice A o.t.length cp) o.t :: F) w'
theorem CardAt.drop {w : World} {b off : Nat} {l : List UInt8} {c : Nat} (h : CardAt w (some ⟨b, off, none⟩) l c) (n : Nat) (hn : n ≤ l.length) (A : Option Addr) (hA : n < l.length → A = some ⟨b, off + n, none⟩) : CardAt w A (l.drop n) (c - n) := by
  refine ⟨fun hne => ?_, by have := h.2.1; rw [List.length_drop]; omega, by have := h.2.2; omega⟩
  have hlt : n < l.length := by
    rcases Nat.lt_or_ge n l.length with h1 | h1
    · exact h1
    · rw [List.drop_of_length_le h1] at hne; exact absurd rfl hne
  have h0 : Lib.byteCells l ≠ [] := fun e => by
    have h2 := congrArg List.length e
    rw [byteCells_len] at h2
    have h3 : l.length = 0 := h2
    omega
  obtain ⟨b2, off2, e, hb, hc⟩ := h.1 h0
  injection e with e; injection e with e1 e2
  subst e1; subst e2
  refine ⟨b, off + n, hA hlt, hb, fun j u hu => ?_⟩
  have : (Lib.byteCells l)[n + j]? = some u := by
    simp only [Lib.byteCells, List.map_drop, List.getElem?_drop] at hu
    exact hu
  rw [Nat.add_assoc]
  exact hc (n + j) u this
section
variable {W w : World} {F : List SA}
theorem RetD.bad {w' : World} (S : SL W F w') : RetD W F none (.returned (.tuple #[.int .i64 0, .int .i64 0, .slice none 0 0, .int .i64 5])) w' :=
  ⟨none, 0, rfl, recsS_close (ps := []) (S.empty.nil _ _)⟩
set_option maxHeartbeats 1000000 in
theorem ne1_any (x : Int) (w : World) : Calls Try.prog 56 #[.int .u8 x] w fun e w' => e = .returned (.bool (x != 255)) ∧ w = w' := by
  go_enter Try.func56, Try.ntmps56
  go_wp2
  go_ret
  exact ⟨rfl, rfl⟩
def no255 (x : UInt8) : Bool := ((x.toNat : Int) != 255)
set_option maxHeartbeats 4000000 in
theorem index8_any (A : Option Addr) (l : List UInt8) (c : Nat) (w : World) (hr : At w w.heap.size A (Lib.byteCells l)) (hl : l.length ≤ 1073741824) :
    Calls Try.prog 71 #[.slice A l.length c, .func (.func 56) #[] #[]] w fun e w' => e = .returned (.int .i64 (idxV (l.findIdx? no255))) ∧ w = w' := by
  have HR := Lib.hid hr
  clear hr
  go_enter Try.func71, Try.ntmps71
  go_wp2
  go_loop [8] (fun i => ∃ k : Nat, k ≤ l.length ∧ i = .int .i64 k ∧ (∀ j y, j < k → l[j]? = some y → no255 y = false)) (fun i => l.length - (intOf i).toNat)
  case atStart => exact ⟨0, Nat.zero_le _, rfl, fun j y h => absurd h (by omega)⟩
  case round =>
    obtain ⟨k, hk, rfl, hok⟩ := hrel
    have HOK := Lib.hid hok
    clear hok
    by_cases hlt : k < l.length
    · have hx : l[k]? = some l[k] := by simp [hlt]
      obtain ⟨b, off, hA, _, c0⟩ := HR.out.cell (byteCells_get l k hlt)
      generalize l[k] = x at hx c0
      subst hA
      have HX := Lib.hid hx
      clear hx
      have HD := Lib.hid (show no255 x = ((x.toNat : Int) != 255) from rfl)
      generalize no255 x = q at *
      go_wp2_with fail
      refine (ne1_any _ _).mono ?_
      rw [← HD.out]
      rintro e w2 ⟨rfl, rfl⟩
      cases q
      · go_wp2
        go_round
        case rel => exact ⟨k + 1, by omega, by go_num, fun j y hj hy => (by
          rcases Nat.lt_succ_iff_lt_or_eq.1 hj with h | rfl
          · exact HOK.out j y h hy
          · have hx := HX.out
            rw [hy] at hx; injection hx with hx; subst hx; exact HD.out.symm)⟩
        case measure => simp [intOf]; omega
      · have HF := Lib.hid (show l.findIdx? no255 = some k from findIdx_some HX.out (show no255 x = true from HD.out.symm) HOK.out)
        go_wp2
        go_ret
        exact ⟨by rw [HF.out]; rfl, rfl⟩
    · obtain rfl : k = l.length := by omega
      have HF := Lib.hid (show l.findIdx? no255 = none from findIdx_none HOK.out)
      go_wp2
      go_ret
      exact ⟨by rw [HF.out]; rfl, rfl⟩
theorem any8Idx {l : List UInt8} : decide ((0 : Int) ≤ idxV (l.findIdx? no255)) = !(l.all (· == 255)) := by
  have hno : ∀ x, no255 x = !(x == 255) := fun x => by
    unfold no255
    by_cases h : x = 255
    · subst h; rfl
    · have : ¬ ((x.toNat : Int) = 255) := fun e => h (by apply UInt8.toNat_inj.1; show x.toNat = 255; omega)
      have a : ((x.toNat : Int) != 255) = true := by rw [bne_iff_ne]; exact this
      have b : (x == 255) = false := by rw [beq_eq_false_iff_ne]; exact h
      rw [a, b]; rfl
  cases h : l.findIdx? no255 with
  | none =>
    have h2 := List.findIdx?_eq_none_iff.1 h
    have : l.all (· == 255) = true := List.all_eq_true.2 fun x hx => by have := h2 x hx; rw [hno] at this; simpa using this
    rw [this]; rfl
  | some i =>
    rw [List.findIdx?_eq_some_iff_getElem] at h
    obtain ⟨hi, hb, _⟩ := h
    have : l.all (· == 255) = false := List.all_eq_false.2 ⟨_, List.getElem_mem hi, by rw [hno] at hb; simpa using hb⟩
    rw [this]
    exact decide_eq_true (by show (0 : Int) ≤ (i : Int); omega)
set_option maxHeartbeats 2000000 in
theorem contains8_any (A : Option Addr) (l : List UInt8) (c : Nat) (w : World) (hr : At w w.heap.size A (Lib.byteCells l)) (hl : l.length ≤ 1073741824) :
    Calls Try.prog 55 #[.slice A l.length c, .func (.func 56) #[] #[]] w fun e w' => e = .returned (.bool (!(l.all (· == 255)))) ∧ w = w' := by
  have HI := Lib.hid (index8_any A l c w hr hl)
  have HN := Lib.hid (any8Idx (l := l))
  generalize idxV (l.findIdx? no255) = i at *
  clear hr
  go_enter Try.func55, Try.ntmps55
  go_wp2_with fail
  refine HI.out.mono ?_
  rintro e w2 ⟨rfl, rfl⟩
  clear HI
  go_wp2
  go_ret
  exact ⟨by rw [← HN.out]; rfl, rfl⟩
set_option maxRecDepth 100000 in
set_option maxHeartbeats 16000000 in
theorem decode_any (A : Option Addr) (b : List UInt8) (c : Nat) (S : SL W F w) (hr : CardAt w A b c) (hb : b.length ≤ 1000000) :
    Calls Try.prog 24 #[.slice A b.length c] w (RetD W F (decP b)) := by
  have HS := Lib.hid S
  have HR := Lib.hid hr
  clear S hr
  go_enter Try.func24, Try.ntmps24
  go_wp2
  go_loopw [6, 7, 8, 9] (fun vt vc vh vr wr => ∃ (t : List Rec) (cy hd : Nat) (r : List UInt8) (A3 : Option Addr) (c3 : Nat) (Ar : Option Addr) (cr : Nat) (ps : List RV), vt = .slice A3 t.length c3 ∧ vc = .int .i64 cy ∧ vh = .int .i64 hd ∧ vr = .slice Ar r.length cr ∧
    CardAt w Ar r cr ∧ t.length * 8 + r.length ≤ b.length ∧ cy ≤ 65535 ∧ hd ≤ 65535 ∧ goP [] 0 0 b = goP t cy hd r ∧ (∀ x ∈ t, x.key.length ≤ 255 ∧ x.data.length ≤ 65535) ∧
    ps.map Prod.snd = t ∧ SL w (rowS 25 4 (.slice A3 t.length c3) t.length (ps.flatMap recCells) :: star (ps.map recO) :: []) wr) (fun _ _ _ vr _ => match vr with | .slice _ n _ => n | _ => 0)
  case atStart => exact ⟨[], 0, 0, b, none, 0, A, c, [], rfl, rfl, rfl, rfl, HR.out, by simp, by omega, by omega, rfl, by simp, rfl, (SL.start w).empty.nil _ _⟩
  case round =>
    obtain ⟨t, cy, hd, r, A3, c3, Ar, cr, ps, rfl, rfl, rfl, rfl, hcr, hlen, hcy, hhd, hgo, hsz, hps, S1⟩ := hrel
    have H1 := Lib.hid S1
    have HSZ := Lib.hid (And.intro hsz hps)
    clear S1 hsz hps
    by_cases h8 : 8 < r.length
    · have hstep := goP.eq_1 t cy hd r
      rw [dif_pos h8] at hstep
      obtain ⟨bb, off, hA, c4⟩ := byte_cell hcr.1 (i := 4) (by omega)
      subst hA
      obtain ⟨b2, off2, hA, c5⟩ := byte_cell hcr.1 (i := 5) (by omega)
      injection hA with hA; injection hA with hA1 hA2
      subst hA1; subst hA2
      have HCR := Lib.hid hcr
      have HC := Lib.hid (fun (wx : World) (hx : Below w.heap.size w wx) => (And.intro ((hx.cell (p := ⟨bb, off + 4, none⟩) (World.block_lt_of_cell? w _ c4)).trans c4) ((hx.cell (p := ⟨bb, off + 5, none⟩) (World.block_lt_of_cell? w _ c5)).trans c5)))
      have HAT0 := Lib.hid (show ∀ (wx : World) (hx : Below w.heap.size w wx), Calls Try.prog 53 #[.slice (some ⟨bb, off, none⟩) r.length cr, .int .i64 0] wx fun e w' => e = .returned (.int .i64 (hN r 0 : Int)) ∧ Still wx w' from fun wx hx => at_any (some ⟨bb, off, none⟩) r cr 0 wx ((hcr.grow hx).1) (by omega) (by omega))
      have HAT2 := Lib.hid (show ∀ (wx : World) (hx : Below w.heap.size w wx), Calls Try.prog 53 #[.slice (some ⟨bb, off, none⟩) r.length cr, .int .i64 2] wx fun e w' => e = .returned (.int .i64 (hN r 2 : Int)) ∧ Still wx w' from fun wx hx => at_any (some ⟨bb, off, none⟩) r cr 2 wx ((hcr.grow hx).1) (by omega) (by omega))
      have HAT6 := Lib.hid (show ∀ (wx : World) (hx : Below w.heap.size w wx), Calls Try.prog 53 #[.slice (some ⟨bb, off, none⟩) r.length cr, .int .i64 6] wx fun e w' => e = .returned (.int .i64 (dl r : Int)) ∧ Still wx w' from fun wx hx => at_any (some ⟨bb, off, none⟩) r cr 6 wx ((hcr.grow hx).1) (by omega) (by omega))
      have hl0 := hN_lt r 0
      have hl2 := hN_lt r 2
      have hl6 : dl r ≤ 65535 := hN_lt r 6
      have HKL := Lib.hid (show kl r = (r.getD 5 0).toNat from rfl)
      have hlk : kl r ≤ 255 := by have := (r.getD 5 0).toNat_lt; unfold kl; omega
      have HPE := Lib.hid (show pend r = 8 + kl r + dl r from rfl)
      have HRL := Lib.hid (fun h : pend r ≤ r.length => recOf_len h)
      rw [← HKL.out] at HC
      have HGO := Lib.hid hgo
      clear hcr c4 c5 hgo
      obtain ⟨x, hx⟩ : ∃ x, x = recOf r := ⟨_, rfl⟩
      have hx0 : 0 ≤ x.r ∧ x.r ≤ 255 := by have := (r.getD 4 0).toNat_lt; rw [hx]; simp only [recOf]; omega
      have HX4 := Lib.hid (show ((r.getD 4 0).toNat : Int) = x.r by rw [hx]; rfl)
      rw [HX4.out] at HC
      rw [← hx] at hstep HRL
      have HX := Lib.hid hx
      have HXK := Lib.hid (show x.key = (r.drop 8).take (kl r) ∧ x.data = (r.drop (8 + kl r)).take (dl r) by rw [hx]; exact ⟨rfl, rfl⟩)
      clear hx
      generalize hca : (if t.length = 0 then hN r 0 else cy) = ca at hstep
      generalize hha : (if t.length = 0 then hN r 2 else hd) = ha at hstep
      have HST := Lib.hid hstep
      have HCA := Lib.hid (And.intro hca hha)
      have hca1 : ca ≤ 65535 := by rw [← hca]; split; exact hl0; exact hcy
      have hha1 : ha ≤ 65535 := by rw [← hha]; split; exact hl2; exact hhd
      clear hstep hca hha
      generalize hN r 0 = n0 at *
      generalize hN r 2 = n2 at *
      generalize pend r = pe at *
      generalize dl r = nd at *
      generalize kl r = nk at *
      by_cases ht : t.length = 0
      · obtain ⟨rfl, rfl⟩ : ca = n0 ∧ ha = n2 := by obtain ⟨h1, h2⟩ := HCA.out; rw [if_pos ht] at h1 h2; exact ⟨h1.symm, h2.symm⟩
        have ht' : ((t.length : Int) == 0) = true := by rw [beq_iff_eq]; omega
        clear ht
        go_wp2_with fail
        (with_reducible refine (HAT0.out _ H1.out.below).mono ?_); rintro e wxH2 ⟨rfl, sx⟩; have H2 := Lib.hid (H1.out.still sx); clear sx H1
        go_wp2_with fail
        (with_reducible refine (HAT2.out _ H2.out.below).mono ?_); rintro e wxH3 ⟨rfl, sx⟩; have H3 := Lib.hid (H2.out.still sx); clear sx H2
        obtain ⟨f4, f5⟩ := HC.out _ H3.out.below
        go_wp2_with fail
        (with_reducible refine (HAT6.out _ H3.out.below).mono ?_); rintro e wxH4 ⟨rfl, sx⟩; have H4 := Lib.hid (H3.out.still sx); clear sx H3
        clear f4 f5
        go_wp2_with fail
        (with_reducible refine (HAT0.out _ H4.out.below).mono ?_); rintro e wxH5 ⟨rfl, sx⟩; have H5 := Lib.hid (H4.out.still sx); clear sx H4
        have e0 : ca = ca := rfl
        have t0 : ((ca : Int) != (ca : Int)) = false := by simp
        go_wp2_with fail
        (with_reducible refine (HAT2.out _ H5.out.below).mono ?_); rintro e wxH6 ⟨rfl, sx⟩; have H6 := Lib.hid (H5.out.still sx); clear sx H5
        have e2 : ha = ha := rfl
        have t2 : ((ha : Int) != (ha : Int)) = false := by simp
        by_cases e3 : r.length < pe
        case pos =>
          have hpe := HPE.out
          have t3 : decide ((r.length : Int) < 8 + (nk : Int) + (nd : Int)) = true := by simp; omega
          have HN := Lib.hid (show decP b = none by unfold decP; rw [HGO.out, HST.out, if_pos (Or.inr (Or.inr e3))])
          clear e3 e2 e0 hpe
          go_wp2
          refine bodyPost_ret (v := .tuple #[.int .i64 0, .int .i64 0, .slice none 0 0, .int .i64 5]) (by simp [results, Try.results24, go_sem]) rfl ?_
          rw [HN.out]
          exact RetD.bad (HS.out.join H6.out.drop.drop)
        have HGN := Lib.hid (show goP [] 0 0 b = goP (t ++ [x]) ca ha (r.drop pe) by rw [HGO.out, HST.out, if_neg (by rintro (h | h | h); exact h rfl; exact h rfl; exact e3 h)])
        have t3 : decide ((r.length : Int) < 8 + (nk : Int) + (nd : Int)) = false := by have hpe := HPE.out; simp; omega
        have hpl : pe ≤ r.length := by omega
        clear e3 e2 e0
        go_upto_region 10 with fail
        have hcl := HCR.out.2.1
        have hcm : cr ≤ 9223372036854775807 := by have := HCR.out.2.2; unfold maxLen at this; omega
        have hkp : 8 + nk + nd = pe := HPE.out.symm
        obtain ⟨ek1, ed1⟩ := HRL.out hpl
        rw [show (8 : Int) + (nk : Int) + (nd : Int) = (pe : Int) by omega, show (8 : Int) + (nk : Int) = ((8 + nk : Nat) : Int) by omega]
        obtain ⟨ke, hke⟩ : ∃ ke, ke = 8 + nk := ⟨_, rfl⟩
        rw [← hke]
        have ek : ke - 8 = x.key.length := by omega
        have ed : pe - ke = x.data.length := by omega
        have e8 : (cr = 8) = False := eq_false (by omega)
        have hx5 : IntKind.i64.wrap x.r = x.r := IntWalk.i64_in _ (by omega)
        have g0 : ((4 : Int) < (r.length : Int)) = True := eq_true (by omega)
        have g1 : ((8 : Int) ≤ (ke : Int)) = True := eq_true (by omega)
        have g2 : ((ke : Int) ≤ (cr : Int)) = True := eq_true (by omega)
        have g3 : ((ke : Int) ≤ (pe : Int)) = True := eq_true (by omega)
        have g4 : ((pe : Int) ≤ (cr : Int)) = True := eq_true (by omega)
        have HCK := Lib.hid (show CardAt w (some ⟨bb, off + 8, none⟩) x.key (cr - 8) by
          have h := (HCR.out.drop 8 (by omega) (some ⟨bb, off + 8, none⟩) (fun _ => rfl)).take nk
          rw [← HXK.out.1] at h; exact h)
        have HKE := Lib.hid hke
        have hkr : ke ≤ pe := by omega
        obtain ⟨Ad, hAd⟩ : ∃ Ad, (if cr = ke then some (⟨bb, off, none⟩ : Addr) else some ⟨bb, off + ke, none⟩) = Ad := ⟨_, rfl⟩
        have HCD := Lib.hid (show CardAt w Ad x.data (cr - ke) by
          have h := (HCR.out.drop ke (by omega) Ad (fun h => by rw [← hAd, if_neg (by omega)])).take nd
          rw [hke, ← HXK.out.2, ← hke] at h; exact h)
        clear hke hkp ek1 ed1
        refine wp_region_order (fun wx => wx = wxH6.drew) [0, 1, 2, 5, 6, 7, 8, 9, 10, 11] [3, 4, 12] [] [] [13, 14, 15, 16] (by kernel_rfl) (by kernel_rfl) rfl (by intro c a d v w h; cases d <;> exact h) ?_
        simp only [pick, List.filterMap_cons, List.filterMap_nil, List.getElem?_cons_zero, List.getElem?_cons_succ]
        (repeat (with_reducible refine wpPure_step ?_; intro K hK; go_simp; with_reducible refine hK _ ?_; clear hK K))
        refine wpPure_nil ?_
        obtain ⟨f4, f5⟩ := HC.out _ H6.out.below.drew
        (repeat (with_reducible refine wpLoads_step ?_; intro K hK; go_simp; first | (with_reducible refine hK _ ?_; clear hK K) | (rw [if_neg (by decide)]; with_reducible refine hK _ ?_; clear hK K) | (refine ⟨_, fun wx hx => (by subst hx; go_simp; with_reducible rfl), hK _ ?_⟩; clear hK K) | (refine ⟨_, fun _ _ => rfl, hK _ ?_⟩; clear hK K))); with_reducible refine wpLoads_nil ?_
        refine wpQuiet_nil ?_
        intro wq hwq
        subst hwq
        refine wpKeep_nil ?_
        have H7 := Lib.hid H6.out.drew
        clear H6 f4 f5
        have hcl2 := clone_any x (some ⟨bb, off + 8, none⟩) Ad (cr - 8) (cr - ke) H7.out (HCK.out.grow H7.out.below) (HCD.out.grow H7.out.below) (by omega)
        rw [show x.bad = false by rw [HX.out]; rfl] at hcl2
        have HCL := Lib.hid hcl2
        clear hcl2
        refine wpList_plain rfl ?_
        intro K hK
        go_wp2_with fail
        refine HCL.out.mono ?_
        rintro e w8 ⟨vk, vd, rfl, S8⟩
        have H8 := Lib.hid S8.s2
        clear S8 H7 HCL
        refine hK _ _ ?_
        clear hK K
        refine wpList_plain rfl ?_
        intro K hK
        go_simp
        refine hK _ _ ?_
        clear hK K
        obtain ⟨Ae, hAe⟩ : ∃ Ae, (if cr = pe then some (⟨bb, off, none⟩ : Addr) else some ⟨bb, off + pe, none⟩) = Ae := ⟨_, rfl⟩
        have HCE := Lib.hid (HCR.out.drop pe hpl Ae (fun h => by rw [← hAe, if_neg (by omega)]))
        have hdl : (r.drop pe).length = r.length - pe := List.length_drop
        have HDL := Lib.hid hdl
        have hp8 : 8 ≤ pe := by have := HPE.out; omega
        clear hdl
        refine wpList_pushS rfl _ _ _ rfl recElem w8 [.int .i64 x.r, vk, vd, .bool x.bad] 1 rfl rfl (by
          obtain ⟨_, _, e1, _, _⟩ := own_slice H8.out.s1.own
          obtain ⟨_, _, e2, _, _⟩ := own_slice H8.out.s2.own
          rw [e1, e2]
          simp [Value.oneCell']) _ t.length _ rfl rfl H8.out (by unfold maxLen; omega) (by omega) ?_
        intro A6 c6 w6 S6
        have H9 := Lib.hid S6
        clear S6 H8
        go_wp2
        go_roundw
        case rel =>
          refine ⟨t ++ [x], ca, ha, r.drop pe, A6, c6, Ae, cr - pe, ps ++ [((vk, vd), x)], by simp, rfl, rfl, by rw [HDL.out], HCE.out, by rw [List.length_append, HDL.out, List.length_singleton]; omega, by omega, by omega, HGN.out, ?_, ?_, ?_⟩
          · intro y hy
            rcases List.mem_append.1 hy with h | h
            · exact HSZ.out.1 y h
            · obtain rfl := List.mem_singleton.1 h
              obtain ⟨h1, h2⟩ := HRL.out hpl
              omega
          · rw [List.map_append, HSZ.out.2]; rfl
          · rw [flat_snoc, List.length_append, List.length_singleton]
            exact recO_snoc H9.out
        case measure => simp; omega
      · obtain ⟨rfl, rfl⟩ : cy = ca ∧ hd = ha := by obtain ⟨h1, h2⟩ := HCA.out; rw [if_neg ht] at h1 h2; exact ⟨h1, h2⟩
        have ht' : ((t.length : Int) == 0) = false := by rw [beq_eq_false_iff_ne]; omega
        have H3 := Lib.hid H1.out
        clear H1 ht
        obtain ⟨f4, f5⟩ := HC.out _ H3.out.below
        go_wp2_with fail
        (with_reducible refine (HAT6.out _ H3.out.below).mono ?_); rintro e wxH4 ⟨rfl, sx⟩; have H4 := Lib.hid (H3.out.still sx); clear sx H3
        clear f4 f5
        go_wp2_with fail
        (with_reducible refine (HAT0.out _ H4.out.below).mono ?_); rintro e wxH5 ⟨rfl, sx⟩; have H5 := Lib.hid (H4.out.still sx); clear sx H4
        by_cases e0 : n0 = cy
        case neg =>
          have t0 : ((n0 : Int) != (cy : Int)) = true := by simp; omega
          have HN := Lib.hid (show decP b = none by unfold decP; rw [HGO.out, HST.out, if_pos (Or.inl e0)])
          clear e0
          go_wp2
          refine bodyPost_ret (v := .tuple #[.int .i64 0, .int .i64 0, .slice none 0 0, .int .i64 5]) (by simp [results, Try.results24, go_sem]) rfl ?_
          rw [HN.out]
          exact RetD.bad (HS.out.join H5.out.drop.drop)
        have t0 : ((n0 : Int) != (cy : Int)) = false := by simp; omega
        go_wp2_with fail
        (with_reducible refine (HAT2.out _ H5.out.below).mono ?_); rintro e wxH6 ⟨rfl, sx⟩; have H6 := Lib.hid (H5.out.still sx); clear sx H5
        by_cases e2 : n2 = hd
        case neg =>
          have t2 : ((n2 : Int) != (hd : Int)) = true := by simp; omega
          have HN := Lib.hid (show decP b = none by unfold decP; rw [HGO.out, HST.out, if_pos (Or.inr (Or.inl e2))])
          clear e2 e0
          go_wp2
          refine bodyPost_ret (v := .tuple #[.int .i64 0, .int .i64 0, .slice none 0 0, .int .i64 5]) (by simp [results, Try.results24, go_sem]) rfl ?_
          rw [HN.out]
          exact RetD.bad (HS.out.join H6.out.drop.drop)
        have t2 : ((n2 : Int) != (hd : Int)) = false := by simp; omega
        by_cases e3 : r.length < pe
        case pos =>
          have hpe := HPE.out
          have t3 : decide ((r.length : Int) < 8 + (nk : Int) + (nd : Int)) = true := by simp; omega
          have HN := Lib.hid (show decP b = none by unfold decP; rw [HGO.out, HST.out, if_pos (Or.inr (Or.inr e3))])
          clear e3 e2 e0 hpe
          go_wp2
          refine bodyPost_ret (v := .tuple #[.int .i64 0, .int .i64 0, .slice none 0 0, .int .i64 5]) (by simp [results, Try.results24, go_sem]) rfl ?_
          rw [HN.out]
          exact RetD.bad (HS.out.join H6.out.drop.drop)
        have HGN := Lib.hid (show goP [] 0 0 b = goP (t ++ [x]) cy hd (r.drop pe) by rw [HGO.out, HST.out, if_neg (by rintro (h | h | h); exact h e0; exact h e2; exact e3 h)])
        have t3 : decide ((r.length : Int) < 8 + (nk : Int) + (nd : Int)) = false := by have hpe := HPE.out; simp; omega
        have hpl : pe ≤ r.length := by omega
        clear e3 e2 e0
        go_upto_region 10 with fail
        have hcl := HCR.out.2.1
        have hcm : cr ≤ 9223372036854775807 := by have := HCR.out.2.2; unfold maxLen at this; omega
        have hkp : 8 + nk + nd = pe := HPE.out.symm
        obtain ⟨ek1, ed1⟩ := HRL.out hpl
        rw [show (8 : Int) + (nk : Int) + (nd : Int) = (pe : Int) by omega, show (8 : Int) + (nk : Int) = ((8 + nk : Nat) : Int) by omega]
        obtain ⟨ke, hke⟩ : ∃ ke, ke = 8 + nk := ⟨_, rfl⟩
        rw [← hke]
        have ek : ke - 8 = x.key.length := by omega
        have ed : pe - ke = x.data.length := by omega
        have e8 : (cr = 8) = False := eq_false (by omega)
        have hx5 : IntKind.i64.wrap x.r = x.r := IntWalk.i64_in _ (by omega)
        have g0 : ((4 : Int) < (r.length : Int)) = True := eq_true (by omega)
        have g1 : ((8 : Int) ≤ (ke : Int)) = True := eq_true (by omega)
        have g2 : ((ke : Int) ≤ (cr : Int)) = True := eq_true (by omega)
        have g3 : ((ke : Int) ≤ (pe : Int)) = True := eq_true (by omega)
        have g4 : ((pe : Int) ≤ (cr : Int)) = True := eq_true (by omega)
        have HCK := Lib.hid (show CardAt w (some ⟨bb, off + 8, none⟩) x.key (cr - 8) by
          have h := (HCR.out.drop 8 (by omega) (some ⟨bb, off + 8, none⟩) (fun _ => rfl)).take nk
          rw [← HXK.out.1] at h; exact h)
        have HKE := Lib.hid hke
        have hkr : ke ≤ pe := by omega
        obtain ⟨Ad, hAd⟩ : ∃ Ad, (if cr = ke then some (⟨bb, off, none⟩ : Addr) else some ⟨bb, off + ke, none⟩) = Ad := ⟨_, rfl⟩
        have HCD := Lib.hid (show CardAt w Ad x.data (cr - ke) by
          have h := (HCR.out.drop ke (by omega) Ad (fun h => by rw [← hAd, if_neg (by omega)])).take nd
          rw [hke, ← HXK.out.2, ← hke] at h; exact h)
        clear hke hkp ek1 ed1
        refine wp_region_order (fun wx => wx = wxH6.drew) [0, 1, 2, 5, 6, 7, 8, 9, 10, 11] [3, 4, 12] [] [] [13, 14, 15, 16] (by kernel_rfl) (by kernel_rfl) rfl (by intro c a d v w h; cases d <;> exact h) ?_
        simp only [pick, List.filterMap_cons, List.filterMap_nil, List.getElem?_cons_zero, List.getElem?_cons_succ]
        (repeat (with_reducible refine wpPure_step ?_; intro K hK; go_simp; with_reducible refine hK _ ?_; clear hK K))
        refine wpPure_nil ?_
        obtain ⟨f4, f5⟩ := HC.out _ H6.out.below.drew
        (repeat (with_reducible refine wpLoads_step ?_; intro K hK; go_simp; first | (with_reducible refine hK _ ?_; clear hK K) | (rw [if_neg (by decide)]; with_reducible refine hK _ ?_; clear hK K) | (refine ⟨_, fun wx hx => (by subst hx; go_simp; with_reducible rfl), hK _ ?_⟩; clear hK K) | (refine ⟨_, fun _ _ => rfl, hK _ ?_⟩; clear hK K))); with_reducible refine wpLoads_nil ?_
        refine wpQuiet_nil ?_
        intro wq hwq
        subst hwq
        refine wpKeep_nil ?_
        have H7 := Lib.hid H6.out.drew
        clear H6 f4 f5
        have hcl2 := clone_any x (some ⟨bb, off + 8, none⟩) Ad (cr - 8) (cr - ke) H7.out (HCK.out.grow H7.out.below) (HCD.out.grow H7.out.below) (by omega)
        rw [show x.bad = false by rw [HX.out]; rfl] at hcl2
        have HCL := Lib.hid hcl2
        clear hcl2
        refine wpList_plain rfl ?_
        intro K hK
        go_wp2_with fail
        refine HCL.out.mono ?_
        rintro e w8 ⟨vk, vd, rfl, S8⟩
        have H8 := Lib.hid S8.s2
        clear S8 H7 HCL
        refine hK _ _ ?_
        clear hK K
        refine wpList_plain rfl ?_
        intro K hK
        go_simp
        refine hK _ _ ?_
        clear hK K
        obtain ⟨Ae, hAe⟩ : ∃ Ae, (if cr = pe then some (⟨bb, off, none⟩ : Addr) else some ⟨bb, off + pe, none⟩) = Ae := ⟨_, rfl⟩
        have HCE := Lib.hid (HCR.out.drop pe hpl Ae (fun h => by rw [← hAe, if_neg (by omega)]))
        have hdl : (r.drop pe).length = r.length - pe := List.length_drop
        have HDL := Lib.hid hdl
        have hp8 : 8 ≤ pe := by have := HPE.out; omega
        clear hdl
        refine wpList_pushS rfl _ _ _ rfl recElem w8 [.int .i64 x.r, vk, vd, .bool x.bad] 1 rfl rfl (by
          obtain ⟨_, _, e1, _, _⟩ := own_slice H8.out.s1.own
          obtain ⟨_, _, e2, _, _⟩ := own_slice H8.out.s2.own
          rw [e1, e2]
          simp [Value.oneCell']) _ t.length _ rfl rfl H8.out (by unfold maxLen; omega) (by omega) ?_
        intro A6 c6 w6 S6
        have H9 := Lib.hid S6
        clear S6 H8
        go_wp2
        go_roundw
        case rel =>
          refine ⟨t ++ [x], cy, hd, r.drop pe, A6, c6, Ae, cr - pe, ps ++ [((vk, vd), x)], by simp, rfl, rfl, by rw [HDL.out], HCE.out, by rw [List.length_append, HDL.out, List.length_singleton]; omega, by omega, by omega, HGN.out, ?_, ?_, ?_⟩
          · intro y hy
            rcases List.mem_append.1 hy with h | h
            · exact HSZ.out.1 y h
            · obtain rfl := List.mem_singleton.1 h
              obtain ⟨h1, h2⟩ := HRL.out hpl
              omega
          · rw [List.map_append, HSZ.out.2]; rfl
          · rw [flat_snoc, List.length_append, List.length_singleton]
            exact recO_snoc H9.out
        case measure => simp; omega
    · have hstep := goP.eq_1 t cy hd r
      rw [dif_neg h8] at hstep
      have HD := Lib.hid (show decP b = if r.length = 8 ∧ validB t = true ∧ r.all (· == 255) = true then some (cy, hd, t) else none by unfold decP; rw [hgo, hstep])
      have hft : Fit t := ⟨by omega, fun x hx => by have := HSZ.out.1 x hx; omega⟩
      have HFT := Lib.hid hft
      have HCR := Lib.hid hcr
      clear hgo hstep hft hcr
      by_cases h9 : r.length = 8
      case neg =>
        have HN := Lib.hid (show decP b = none by rw [HD.out, if_neg (fun h => h9 h.1)])
        have t9 : ((r.length : Int) != 8) = true := by simp; omega
        clear h9
        go_wp2
        refine bodyPost_ret (v := .tuple #[.int .i64 0, .int .i64 0, .slice none 0 0, .int .i64 5]) (by simp [results, Try.results24, go_sem]) rfl ?_
        rw [HN.out]
        exact RetD.bad (HS.out.join H1.out.drop.drop)
      have t9 : ((r.length : Int) != 8) = false := by simp; omega
      have HL9 := Lib.hid h9
      clear h9
      have hrec : RecsAt wr A3 t := by have h := recs_at H1.out; rw [HSZ.out.2] at h; exact h
      have HV := Lib.hid (valid_any A3 t c3 wr hrec HFT.out)
      clear hrec
      cases hv : validB t
      · have HN := Lib.hid (show decP b = none by rw [HD.out, if_neg (fun h => by rw [hv] at h; exact absurd h.2.1 (by decide))])
        rw [hv] at HV
        clear hv
        go_wp2_with fail
        refine HV.out.mono ?_
        rintro e w2 ⟨rfl, b2⟩
        have H2 := Lib.hid (H1.out.grow b2)
        clear b2 H1 HV
        go_wp2
        refine bodyPost_ret (v := .tuple #[.int .i64 0, .int .i64 0, .slice none 0 0, .int .i64 5]) (by simp [results, Try.results24, go_sem]) rfl ?_
        rw [HN.out]
        exact RetD.bad (HS.out.join H2.out.drop.drop)
      · have HVV := Lib.hid hv
        rw [hv] at HV
        clear hv
        go_wp2_with fail
        refine HV.out.mono ?_
        rintro e w2 ⟨rfl, b2⟩
        have H2 := Lib.hid (H1.out.grow b2)
        clear b2 H1 HV
        go_wp2_with fail
        refine (contains8_any Ar r cr w2 (HCR.out.grow H2.out.below).1 (by omega)).mono ?_
        rintro e w3 ⟨rfl, rfl⟩
        cases ha : r.all (· == 255)
        · have HN := Lib.hid (show decP b = none by rw [HD.out, if_neg (fun h => by rw [ha] at h; exact absurd h.2.2 (by decide))])
          clear ha
          go_wp2
          refine bodyPost_ret (v := .tuple #[.int .i64 0, .int .i64 0, .slice none 0 0, .int .i64 5]) (by simp [results, Try.results24, go_sem]) rfl ?_
          rw [HN.out]
          exact RetD.bad (HS.out.join H2.out.drop.drop)
        · have HN := Lib.hid (show decP b = some (cy, hd, t) by rw [HD.out, if_pos ⟨HL9.out, HVV.out, ha⟩])
          clear ha
          go_wp2
          refine bodyPost_ret (v := .tuple #[.int .i64 cy, .int .i64 hd, .slice A3 t.length c3, .int .i64 0]) (by simp [results, Try.results24, go_sem]) rfl ?_
          rw [HN.out]
          refine ⟨A3, c3, rfl, ?_⟩
          exact HS.out.join (recsS_close' (by rw [← HSZ.out.2, List.length_map]) HSZ.out.2 H2.out)
end
end Go.Proofs.Ytelfihgkbbaifaa
