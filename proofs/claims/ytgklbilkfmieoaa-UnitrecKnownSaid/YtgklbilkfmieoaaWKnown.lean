/- UnitrecKnown: the walk. -/
import Derived.Test.YtgklbilkfmieoaaWCards
import Derived.Test.YtgklbilkfmieoaaTail4
namespace Go.Proofs.Ytgklbilkfmieoaa
open Go.RowKit

/-- A literal of one card is a deck. -/
theorem deck_one {W w : World} {F : List SA} {v : Value} {l : List UInt8} (S : SL W (rowS 5 1 v l.length (Lib.byteCells l) :: F) w) :
    SL W (rowS 31 1 (.slice (some ⟨w.heap.size, 0, none⟩) 1 1) 1 ([(v, l)].map Prod.fst) :: star ([(v, l)].map cardS) :: F) (w.alloc (.cells #[v] 31)) :=
  (SL.app (L := [cardS (v, l)]) S).lit #[v] 31 1 1 rfl (by decide)
/-- A reader's command, its result known. -/
theorem rd_known {W w : World} {F : List SA} {rb se tk st : Nat} {cs : List (List UInt8)} (op : Int) (A : Option Addr) (l : List UInt8) (n c : Nat) (hn : l.length = n) (S : SL W (readerS rb se tk st cs :: F) w) (hr : Rd W (readerS rb se tk st cs :: F) A (Lib.byteCells l)) (hz : l.length ≤ maxLen) (hf : RdFit se tk st cs)
    (se1 tk1 st1 : Nat) (rd : List UInt8) (xs sn : Int) (h : rdDo se tk st cs op l = ((se1, tk1, st1), rd, xs, sn)) :
    Calls Try.prog 42 #[.pointer (some ⟨rb, 0, none⟩), .int .i64 op, .slice A n c] w fun e w' => RetS W (readerS rb se1 tk1 st1 cs :: F) rd xs sn e w' := by
  subst hn
  have := rddo_any rb se tk st cs op A l c S hr hz hf
  rw [h] at this
  exact this
def c56 : List (List UInt8) := [cardB 5 6]
theorem c56_fit (se tk st : Nat) (h1 : se < 256) (h2 : tk ≤ 1) (h3 : st ≤ tk) : RdFit se tk st c56 := ⟨h1, by decide, h2, h3, by intro c hc; simp only [c56, List.mem_cons, List.not_mem_nil, or_false] at hc; subst hc; exact cardB_len 5 6⟩

def k1 : PS := (prDo ⟨0, [], 0⟩ 1 [0xC1, 0xC2, 0x40]).1
def k2 : PS := (prDo k1 9 []).1
def k3 : PS := (prDo k2 139 []).1
def k4 : PS := (prDo k3 1 [0xC3]).1
theorem k4_lines : k4.lines.flatMap lineCells = [.int .i64 1, .int .i64 1, .string ⟨#[65, 66]⟩, .int .i64 1, .int .i64 1, .string ⟨#[]⟩, .int .i64 2, .int .i64 1, .string ⟨#[67]⟩] := by
  have : k4.lines = [(1, 1, [65, 66]), (1, 1, []), (2, 1, [67])] := by decide +kernel
  rw [this]; rfl
theorem prDo_space3 (d : Nat) (l : List UInt8) : prDo ⟨d, [], 0⟩ 27 l = (⟨d + 3, [], 0⟩, [], 12, 0) := by
  kernel_rfl

set_option maxRecDepth 100000 in
set_option maxHeartbeats 40000000 in
theorem walk_unitrecKnown (W : World) :
    Calls Try.prog 10 #[] W fun e W' => e = .returned (.bool true) ∧ Below W.heap.size W W' := by
  go_enter Try.func10, Try.ntmps10
  go_wp2_with fail
  refine (card_any 5 6 (by omega) (SL.start W)).mono ?_
  rintro e w1 ⟨A1, kk1, rfl, S1⟩
  have H1 := Lib.hid S1
  clear S1
  go_wp2_with fail
  refine name_world (P := fun W => Calls _ _ _ W _) ?_
  intro w2 hw2
  have H2 := Lib.hid (SL.cast hw2 (deck_one (l := cardB 5 6) H1.out))
  clear hw2 H1
  generalize w1.heap.size = lb at *
  refine (show Calls _ _ _ _ _ from rnew_any c56 (some ⟨lb, 0, none⟩) 1 H2.out (deckRd_of (ps := [(Value.slice A1 80 kk1, cardB 5 6)]) rfl) (by decide)).mono ?_
  intro e w3 hn
  obtain ⟨rb, rfl, S3⟩ := hn.1 (by decide)
  have H3 := Lib.hid (show SL W [readerS rb 0 0 0 c56] w3 from S3.only)
  clear S3 hn H2
  go_wp2_with fail
  refine (rd_known 2 none [] 0 0 rfl H3.out Rd.nil_ (by decide) (c56_fit 0 0 0 (by omega) (by omega) (by omega)) 0 1 0 (cardB 5 6) 12 0 (rdDo_read rfl [])).mono ?_
  rintro e w4 ⟨A4, c4, rfl, S4⟩
  rw [cardB_len] at S4 ⊢
  have H4 := Lib.hid S4
  clear S4 H3
  go_wp2_with fail
  refine name_world (P := fun W => Calls _ _ _ W _) ?_
  intro w5 hw5
  have H5 := Lib.hid (SL.cast hw5 (H4.out.allocC #[.slice A4 80 c4, .int .i64 12, .int .i64 0] 36))
  clear hw5 H4
  generalize w4.heap.size = xa at *
  refine (rd_known 2 none [] 0 0 rfl H5.out.s2 Rd.nil_ (by decide) (c56_fit 0 1 0 (by omega) (by omega) (by omega)) 64 1 0 [] 14 64 (rdDo_none rfl [])).mono ?_
  rintro e w6 ⟨A6, c6, rfl, S6⟩
  have H6 := Lib.hid S6.drop
  clear S6 H5
  go_wp2_with fail
  refine name_world (P := fun W => Calls _ _ _ W _) ?_
  intro w7 hw7
  have H7 := Lib.hid (SL.cast hw7 (H6.out.allocC #[.slice A6 0 c6, .int .i64 14, .int .i64 64] 36))
  clear hw7 H6
  generalize w6.heap.size = xb at *
  refine (rd_known 4 none [] 0 0 rfl H7.out.s1 Rd.nil_ (by decide) (c56_fit 64 1 0 (by omega) (by omega) (by omega)) 64 1 0 [64] 12 0 rfl).mono ?_
  rintro e w8 ⟨A8, c8, rfl, S8⟩
  have H8 := Lib.hid S8
  clear S8 H7
  go_wp2_with fail
  refine name_world (P := fun W => Calls _ _ _ W _) ?_
  intro w9 hw9
  have H9 := Lib.hid (SL.cast hw9 (H8.out.allocC #[.slice A8 1 c8, .int .i64 12, .int .i64 0] 36))
  clear hw9 H8
  generalize w8.heap.size = xc at *
  refine (show Calls _ _ _ _ _ from lfour_S 1 (by omega) H9.out).mono ?_
  rintro e w10 ⟨b10, rfl, S10⟩
  have H10 := Lib.hid S10
  clear S10 H9
  go_wp2_with fail
  refine (rd_known 35 (some ⟨b10, 0, none⟩) (four 1) 4 4 rfl H10.out.s3 (fun _ S => S.s1.at_) (by decide) (c56_fit 64 1 0 (by omega) (by omega) (by omega)) 64 1 1 [] 12 0 (rdDo_stack (by omega) (by omega))).mono ?_
  rintro e w11 ⟨A11, c11, rfl, S11⟩
  have H11 := Lib.hid S11.drop.s1.drop
  clear S11 H10
  go_wp2_with fail
  refine name_world (P := fun W => Calls _ _ _ W _) ?_
  intro w12 hw12
  have H12 := Lib.hid (SL.cast hw12 (H11.out.allocC #[.slice A11 0 c11, .int .i64 12, .int .i64 0] 36))
  clear hw12 H11
  generalize w11.heap.size = xd at *
  refine (show Calls _ _ _ _ _ from lfour_S 2 (by omega) H12.out).mono ?_
  rintro e w13 ⟨b13, rfl, S13⟩
  have H13 := Lib.hid S13
  clear S13 H12
  go_wp2_with fail
  refine (rd_known 35 (some ⟨b13, 0, none⟩) (four 2) 4 4 rfl H13.out.s2 (fun _ S => S.s1.at_) (by decide) (c56_fit 64 1 1 (by omega) (by omega) (by omega)) 128 1 1 [] 14 128 (rdDo_over (by omega) (by omega))).mono ?_
  rintro e w14 ⟨A14, c14, rfl, S14⟩
  have H14 := Lib.hid S14.drop.s1.drop
  clear S14 H13
  go_wp2_with fail
  refine name_world (P := fun W => Calls _ _ _ W _) ?_
  intro w15 hw15
  have H15 := Lib.hid (SL.cast hw15 (H14.out.allocC #[.slice A14 0 c14, .int .i64 14, .int .i64 128] 36))
  clear hw15 H14
  generalize w14.heap.size = xf at *
  refine (rpower_any rb 128 1 1 c56 H15.out.s1).mono ?_
  rintro e w17 ⟨rfl, S17⟩
  have H17 := Lib.hid S17
  clear S17 H15
  go_wp2_with fail
  refine wp_region_order4 (SL W _) [0] [1] [2, 3, 4, 5, 6, 7, 8, 9, 10] [11, 12] [13, 14, 15, 16, 17, 18, 19, 20, 21, 22, 23, 24, 25, 26, 27, 28, 29, 30, 31, 32, 33, 34, 35, 36] [] [] (by kernel_rfl) (by kernel_rfl) H17.out.drew (by intro c a d v w h; cases d <;> exact h) ?_
  simp only [pick, List.filterMap_cons, List.filterMap_nil, List.getElem?_cons_zero, List.getElem?_cons_succ]
  (repeat (refine wpPure_step (fun K hK => ?_); go_simp; refine hK _ ?_; clear hK K)); refine wpPure_nil ?_
  repeat (refine wpLoads_step ?_; intro K hK; go_simp; first | (refine hK _ ?_; clear hK K) | (refine ⟨_, fun wx hx => (by obtain ⟨g0, g1, g2⟩ := hx.s6.look; go_simp; rfl), hK _ ?_⟩; clear hK K))
  refine wpLoads_nil ?_
  (refine wpKeep_step ?_; intro K hK; go_simp)
  refine (show Calls _ _ _ _ _ from card_any 5 6 (by omega) H17.out.drew).mono ?_
  rintro e w18 ⟨A18, k18, rfl, S18⟩
  have H18 := Lib.hid S18
  refine hK _ _ S18.drop ?_
  clear hK K S18 H17
  (refine wpKeep_step ?_; intro K hK; go_simp)
  have hsm := same_eq A4 A18 (cardB 5 6) c4 k18 w18 w18.heap.size (H18.out.drop.s6.s1.drop.s6.at_) H18.out.at_ (by decide)
  rw [cardB_len] at hsm
  refine hsm.mono ?_
  rintro e w19 ⟨rfl, h19⟩
  have H19 := Lib.hid ((H18.out.still h19).drop)
  refine hK _ _ H19.out ?_
  clear hK K h19 hsm H18
  obtain ⟨L5, K5, z5⟩ := H19.out.s5.look
  (refine wpKeep_step ?_; intro K hK; go_simp; refine hK _ _ (H19.out) ?_; clear hK K)
  (refine wpKeep_step ?_; intro K hK; go_simp; refine hK _ _ (H19.out) ?_; clear hK K)
  (refine wpKeep_step ?_; intro K hK; go_simp; refine hK _ _ (H19.out) ?_; clear hK K)
  (refine wpKeep_step ?_; intro K hK; go_simp; refine hK _ _ (H19.out) ?_; clear hK K)
  (refine wpKeep_step ?_; intro K hK; go_simp; refine hK _ _ (H19.out) ?_; clear hK K)
  (refine wpKeep_step ?_; intro K hK; go_simp; refine hK _ _ (H19.out) ?_; clear hK K)
  (refine wpKeep_step ?_; intro K hK; go_simp; refine hK _ _ (H19.out) ?_; clear hK K)
  refine wpKeep_nil ⟨H19.out, ?_⟩
  repeat (refine wpLoads_step ?_; intro K hK; go_simp; first | (refine hK _ ?_; clear hK K) | (refine ⟨_, fun wx hx => (by obtain ⟨g0, g1, g2⟩ := hx.s3.look; go_simp; rfl), hK _ ?_⟩; clear hK K))
  refine wpLoads_nil ?_
  have H20 := Lib.hid (H19.out.lit #[.int .u8 64] 5 1 1 rfl (by decide))
  (refine wpKeep_step ?_; intro K hK; go_simp; refine hK _ _ (H20.out.drop) ?_; clear hK K)
  (refine wpKeep_step ?_; intro K hK; go_simp)
  refine (same_eq A8 (some ⟨w19.heap.size, 0, none⟩) [64] c8 1 _ (w19.alloc (.cells #[.int .u8 64] 5)).heap.size H20.out.s5.at_ (show At _ _ _ (Lib.byteCells [64]) from H20.out.at_) (by decide)).mono ?_
  rintro e w21 ⟨rfl, h21⟩
  have H21 := Lib.hid ((H20.out.still h21).drop)
  refine hK _ _ H21.out ?_
  clear hK K h21 H20 H19
  obtain ⟨Ld, Kd, zd⟩ := H21.out.s2.look
  (refine wpKeep_step ?_; intro K hK; go_simp; refine hK _ _ (H21.out) ?_; clear hK K)
  (refine wpKeep_step ?_; intro K hK; go_simp; refine hK _ _ (H21.out) ?_; clear hK K)
  (refine wpKeep_step ?_; intro K hK; go_simp; refine hK _ _ (H21.out) ?_; clear hK K)
  (refine wpKeep_step ?_; intro K hK; go_simp; refine hK _ _ (H21.out) ?_; clear hK K)
  (refine wpKeep_step ?_; intro K hK; go_simp)
  refine (fine_any _ 12 0 _).mono ?_
  rintro e w22 ⟨rfl, b22⟩
  have H22 := Lib.hid (H21.out.grow b22)
  refine hK _ _ H22.out ?_
  clear hK K b22 H21 Ld Kd zd
  obtain ⟨Lf, Kf, zf⟩ := H22.out.s1.look
  (refine wpKeep_step ?_; intro K hK; go_simp; refine hK _ _ (H22.out) ?_; clear hK K)
  (refine wpKeep_step ?_; intro K hK; go_simp; refine hK _ _ (H22.out) ?_; clear hK K)
  (refine wpKeep_step ?_; intro K hK; go_simp; refine hK _ _ (H22.out) ?_; clear hK K)
  (refine wpKeep_step ?_; intro K hK; go_simp; refine hK _ _ (H22.out) ?_; clear hK K)
  (refine wpKeep_step ?_; intro K hK; go_simp; refine hK _ _ (H22.out) ?_; clear hK K)
  (refine wpKeep_step ?_; intro K hK; go_simp; refine hK _ _ (H22.out) ?_; clear hK K)
  (refine wpKeep_step ?_; intro K hK; go_simp; refine hK _ _ (H22.out) ?_; clear hK K)
  (refine wpKeep_step ?_; intro K hK; go_simp; refine hK _ _ (H22.out) ?_; clear hK K)
  (refine wpKeep_step ?_; intro K hK; go_simp; refine hK _ _ (H22.out) ?_; clear hK K)
  (refine wpKeep_step ?_; intro K hK; go_simp)
  refine (rtaken_any rb 0 1 1 c56 H22.out).mono ?_
  rintro e w23 ⟨rfl, rfl⟩
  refine hK _ _ H22.out ?_
  clear hK K
  (refine wpKeep_step ?_; intro K hK; go_simp; refine hK _ _ (H22.out) ?_; clear hK K)
  (refine wpKeep_step ?_; intro K hK; go_simp; refine hK _ _ (H22.out) ?_; clear hK K)
  (refine wpKeep_step ?_; intro K hK; go_simp; refine hK _ _ (H22.out) ?_; clear hK K)
  (refine wpKeep_step ?_; intro K hK; go_simp; refine hK _ _ (H22.out) ?_; clear hK K)
  (refine wpKeep_step ?_; intro K hK; go_simp)
  refine (rstacked_any rb 0 1 1 c56 H22.out).mono ?_
  rintro e w23 ⟨rfl, rfl⟩
  refine hK _ _ H22.out ?_
  clear hK K
  (refine wpKeep_step ?_; intro K hK; go_simp; refine hK _ _ (H22.out) ?_; clear hK K)
  (refine wpKeep_step ?_; intro K hK; go_simp; refine hK _ _ (H22.out) ?_; clear hK K)
  refine wpKeep_nil ⟨fun wx => wx = w22, fun wx e => e ▸ H22.out, rfl, wpQuiet_nil fun wx e => wpKeep_nil ?_⟩
  subst e
  have B22 := Lib.hid H22.out.1
  clear H22 Lf Kf zf
  go_wp2_with fail
  refine (pnew_any _).mono ?_
  rintro e w1 ⟨rfl, p1, b1⟩
  have P1 := Lib.hid p1
  have B1 := Lib.hid (B22.out.trans (b1.mono B22.out.size))
  have hz0 := B22.out.size
  clear p1 b1 B22
  generalize wx.heap.size = pb at *
  have hpb : pb < w1.heap.size := by obtain ⟨_, _, _, hr, _⟩ := P1.out; exact hl_lt hr
  go_wp2_with fail
  refine (pdo_new pb pb ⟨0, [], 0⟩ 1 _ [0xC1, 0xC2, 0x40] 3 _ P1.out ⟨by simp, by simp, by simp⟩ (by rfl) (by rfl) (by simp [maxLen])).mono ?_
  have e1 : prDo ⟨0, [], 0⟩ 1 [0xC1, 0xC2, 0x40] = (k1, [], 12, 0) := by decide +kernel
  rw [e1]
  rintro e w2 ⟨⟨A, c, rfl, _⟩, p2, f2⟩
  have P2 := Lib.hid p2
  have b2 : Below pb w1 w2 := f2.to_below (fun b _ => PrT.le (Nat.le_refl _) b) (by omega)
  have B2 := Lib.hid (B1.out.trans (b2.mono hz0))
  have hpb2 : pb < w2.heap.size := by have := b2.size; omega
  clear p2 f2 b2 e1 P1 B1
  go_wp2_with fail
  refine (pdo_any pb pb k1 9 none [] 0 _ P2.out (by unfold PS.good; decide +kernel) At.nil_ (by simp) (by simp [maxLen])).mono ?_
  have e1 : prDo k1 9 [] = (k2, [], 12, 0) := by decide +kernel
  rw [e1]
  rintro e w3 ⟨⟨A, c, rfl, _⟩, p3, f3⟩
  have P3 := Lib.hid p3
  have b3 : Below pb w2 w3 := f3.to_below (fun b _ => PrT.le (Nat.le_refl _) b) (by omega)
  have B3 := Lib.hid (B2.out.trans (b3.mono hz0))
  have hpb3 : pb < w3.heap.size := by have := b3.size; omega
  clear p3 f3 b3 e1 P2 B2
  go_wp2_with fail
  refine (pdo_any pb pb k2 139 none [] 0 _ P3.out (by unfold PS.good; decide +kernel) At.nil_ (by simp) (by simp [maxLen])).mono ?_
  have e1 : prDo k2 139 [] = (k3, [], 12, 0) := by decide +kernel
  rw [e1]
  rintro e w4 ⟨⟨A, c, rfl, _⟩, p4, f4⟩
  have P4 := Lib.hid p4
  have b4 : Below pb w3 w4 := f4.to_below (fun b _ => PrT.le (Nat.le_refl _) b) (by omega)
  have B4 := Lib.hid (B3.out.trans (b4.mono hz0))
  have hpb4 : pb < w4.heap.size := by have := b4.size; omega
  clear p4 f4 b4 e1 P3 B3
  go_wp2_with fail
  refine (pdo_new pb pb k3 1 _ [0xC3] 1 _ P4.out (by unfold PS.good; decide +kernel) (by rfl) (by rfl) (by simp [maxLen])).mono ?_
  have e1 : prDo k3 1 [0xC3] = (k4, [], 12, 0) := by decide +kernel
  rw [e1]
  rintro e w5 ⟨⟨A, c, rfl, _⟩, p5, f5⟩
  have P5 := Lib.hid p5
  have b5 : Below pb w4 w5 := f5.to_below (fun b _ => PrT.le (Nat.le_refl _) b) (by omega)
  have B5 := Lib.hid (B4.out.trans (b5.mono hz0))
  have hpb5 : pb < w5.heap.size := by have := b5.size; omega
  clear p5 f5 b5 e1 P4 B4
  go_wp2_with fail
  refine (ppaper_any pb pb k4 _ P5.out (by unfold PS.good; decide +kernel)).mono ?_
  have hl : k4.lines.length = 3 := by decide +kernel
  rw [hl, k4_lines]
  rintro e w6 ⟨A6', c6', rfl, o6, b6⟩
  have B6 := Lib.hid (B5.out.trans (b6.mono (by omega)))
  obtain ⟨g6, rfl, _, _⟩ := own_head o6 (by omega)
  have h0 := o6.cellAt 0 (by omega)
  have h1 := o6.cellAt 1 (by omega)
  have h2 := o6.cellAt 2 (by omega)
  have h3 := o6.cellAt 3 (by omega)
  have h4 := o6.cellAt 4 (by omega)
  have h5 := o6.cellAt 5 (by omega)
  have h6 := o6.cellAt 6 (by omega)
  have h7 := o6.cellAt 7 (by omega)
  have h8 := o6.cellAt 8 (by omega)
  simp only [List.getElem?_cons_zero, List.getElem?_cons_succ] at h0 h1 h2 h3 h4 h5 h6 h7 h8
  clear o6 b6 P5 B5 hl
  go_wp2_with fail
  refine (pnew_any _).mono ?_
  rintro e w7 ⟨rfl, p7, b7⟩
  have P7 := Lib.hid p7
  have B7 := Lib.hid (B6.out.trans (b7.mono B6.out.size))
  have hz7 := B6.out.size
  clear p7 b7 B6 h0 h1 h2 h3 h4 h5 h6 h7 h8
  generalize w6.heap.size = qb at *
  go_wp2_with fail
  go_loopw [11] (fun i wr => ∃ k : Nat, k ≤ 20 ∧ i = .int .i64 k ∧ PrAt wr qb qb ⟨3 * k, [], 0⟩ ∧ Below W.heap.size W wr) (fun i _ => 20 - (intOf i).toNat)
  case atStart => exact ⟨0, by omega, rfl, P7.out, B7.out⟩
  case round =>
    obtain ⟨k, hk, rfl, p8, b8⟩ := hrel
    have P8 := Lib.hid p8
    have B8 := Lib.hid b8
    clear p8 b8 P7 B7
    by_cases hlt : k < 20
    · go_wp2_with fail
      refine (pdo_new qb qb ⟨3 * k, [], 0⟩ 27 _ [1] 1 _ P8.out ⟨by simp, by simp, by simp; omega⟩ (by rfl) (by rfl) (by simp [maxLen])).mono ?_
      rw [prDo_space3]
      rintro e w9 ⟨⟨A9, c9, rfl, _⟩, p9, f9⟩
      have hq8 : qb < wr.heap.size := by obtain ⟨_, _, _, hr, _⟩ := P8.out; exact hl_lt hr
      have b9 : Below qb wr w9 := f9.to_below (fun b _ => PrT.le (Nat.le_refl _) b) (by omega)
      have P9 := Lib.hid (show PrAt w9 qb qb ⟨3 * (k + 1), [], 0⟩ from p9)
      have B9 := Lib.hid (B8.out.trans (b9.mono hz7))
      clear p9 f9 b9 P8 B8
      go_wp2
      go_roundw
      case rel => exact ⟨k + 1, by omega, by go_num, P9.out, B9.out⟩
      case measure => simp [intOf]; omega
    · obtain rfl : k = 20 := by omega
      go_wp2_with fail
      refine (pat_any qb qb _ _ P8.out).mono ?_
      rintro e w9 ⟨rfl, ⟨m9, rfl⟩⟩
      have B9 := Lib.hid (B8.out.trans (show Below W.heap.size wr (wr.drewN m9) by (repeat' (first | (with_reducible exact Below.refl _ _) | (with_reducible assumption) | (with_reducible refine below_drewN ?_ _) | (with_reducible refine Below.drew ?_) | (with_reducible refine Below.alloc ?_ ?_ _) | (with_reducible refine Below.setCell ?_ ?_ _) | (with_reducible refine below_row ?_ ?_ _) | (with_reducible exact Nat.le_refl _) | omega | (simp only [World.size_alloc, World.size_setCell, World.size_drew, World.size_drewN]; omega) | (simp; done) | (simp; omega)))))
      clear P8 B8
      generalize wr.drewN m9 = w9 at *
      go_wp2_with fail
      refine (punnew_any (SL.start w9)).mono ?_
      rintro e w10 ⟨ub, rfl, S10⟩
      have H10 := Lib.hid S10
      clear S10
      go_wp2_with fail
      refine name_world (P := fun W => Calls _ _ _ W _) ?_
      intro w11 hw11
      have H11 := Lib.hid (SL.cast hw11 (H10.out.lit #[.int .u8 241] 5 1 1 rfl (by decide)))
      clear hw11 H10
      generalize w10.heap.size = lb1 at *
      refine (show Calls _ _ _ _ _ from pundo_any ub 0 [] 1 (some ⟨lb1, 0, none⟩) [0xF1] 1 H11.out.s1 (fun _ S => (show At _ _ _ (Lib.byteCells [0xF1]) from S.s1.at_)) (by decide) (by decide) (by decide) (by decide)).mono ?_
      have e1 : punDo 0 [] 1 [0xF1] = (0, [[0xF1] ++ List.replicate 79 0x40], [], 12, 0) := by decide +kernel
      rw [e1]
      rintro e w12 ⟨A12, c12, rfl, S12⟩
      have H12 := Lib.hid S12.drop.only
      clear S12 H11 e1
      go_wp2_with (refine wpList_makeS (by rfl) _ _ _ (by rfl) bElem .i64 .i64 81 81 81 (by rfl) (by rfl) (by rfl) (by rfl) (by decide) (by decide) (H12.out.allocC #[.slice A12 0 c12, .int .i64 12, .int .i64 0] 36) ?_
                   intro g13 w13 S13)
      have hz81 : (madeCells (Value.int .u8 0).cells (81 * 1)).toList = Lib.byteCells (List.replicate 81 0) := by kernel_rfl
      rw [hz81] at S13
      have H13 := Lib.hid S13
      clear S13 H12 hz81
      generalize w12.heap.size = xu at *
      refine (show Calls _ _ _ _ _ from pundo_any ub 0 [[0xF1] ++ List.replicate 79 0x40] 1 (some ⟨g13, 0, none⟩) (List.replicate 81 0) 81 H13.out.s2 (fun _ S => S.s1.at_) (by decide) (by decide) (by decide) (by decide)).mono ?_
      have e1 : punDo 0 [[0xF1] ++ List.replicate 79 0x40] 1 (List.replicate 81 0) = (128, [[0xF1] ++ List.replicate 79 0x40], [], 14, 128) := by decide +kernel
      rw [e1]
      rintro e w14 ⟨A14', c14', rfl, S14⟩
      have H14 := Lib.hid (show SL w9 [cel xu #[.slice A12 0 c12, .int .i64 12, .int .i64 0] 36, punchS ub 128 [[0xF1] ++ List.replicate 79 0x40]] w14 from S14.drop.s2.s2.drop)
      clear S14 H13 e1
      go_wp2_with fail
      refine name_world (P := fun W => Calls _ _ _ W _) ?_
      intro w15' hw15'
      have H15 := Lib.hid (SL.cast hw15' (H14.out.allocC #[.slice A14' 0 c14', .int .i64 14, .int .i64 128] 36))
      clear hw15' H14
      generalize w14.heap.size = xv at *
      refine (show Calls _ _ _ _ _ from pundo_any ub 128 [[0xF1] ++ List.replicate 79 0x40] 5 none [] 0 H15.out.s2 Rd.nil_ (by decide) (by decide) (by decide) (by decide)).mono ?_
      have e1 : punDo 128 [[0xF1] ++ List.replicate 79 0x40] 5 [] = (128, [[0xF1] ++ List.replicate 79 0x40], [], 14, 128) := by decide +kernel
      rw [e1]
      rintro e w16 ⟨A16, c16, rfl, S16⟩
      have H16 := Lib.hid S16.drop
      clear S16 H15 e1
      obtain ⟨Lu, Ku, zu⟩ := H16.out.s2.look
      go_wp2_with fail
      refine name_world (P := fun W => Calls _ _ _ W _) ?_
      intro w17' hw17'
      have H17 := Lib.hid (SL.cast hw17' (H16.out.allocC #[.slice A16 0 c16, .int .i64 14, .int .i64 128] 36))
      clear hw17' H16 Lu Ku zu
      generalize w16.heap.size = xw at *
      refine (fine_any _ 12 0 _).mono ?_
      rintro e w18 ⟨rfl, b18⟩
      have H18 := Lib.hid (H17.out.grow b18)
      clear b18 H17
      obtain ⟨Lv, Kv, zv⟩ := H18.out.s2.look
      obtain ⟨Lw, Kw, zw⟩ := H18.out.look
      go_wp2_with fail
      refine (pundeck_any ub 128 [[0xF1] ++ List.replicate 79 0x40] H18.out.s1 (by decide) (by decide)).mono ?_
      rintro e w19 ⟨A19, c19, rfl, S19⟩
      have B19 := Lib.hid (B9.out.trans (S19.1.mono B9.out.size))
      clear S19 H18
      go_wp2_with fail
      refine (works_any _).mono ?_
      rintro e w20 ⟨rfl, b20⟩
      have B20 := Lib.hid (B19.out.trans (b20.mono B19.out.size))
      clear b20
      go_wp2
      go_ret
      exact ⟨rfl, B20.out⟩
end Go.Proofs.Ytgklbilkfmieoaa
