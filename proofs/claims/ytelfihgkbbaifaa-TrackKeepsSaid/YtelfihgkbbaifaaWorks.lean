/- The chapter's examples. -/
import Derived.Test.YtelfihgkbbaifaaWk
namespace Go.Proofs.Ytelfihgkbbaifaa
open Go.RowKit
theorem RecV.mk' {w : World} {x : Rec} {Ak Ad : Option Addr} {ck cd : Nat} (h1 : CardAt w Ak x.key ck) (h2 : CardAt w Ad x.data cd) : RecV w ((.slice Ak x.key.length ck, .slice Ad x.data.length cd), x) := ⟨Ak, ck, Ad, cd, rfl, h1, h2⟩
theorem RecV.get {w : World} {x : Rec} {Ak Ad : Option Addr} {nk nd ck cd : Nat} (h : RecV w ((.slice Ak nk ck, .slice Ad nd cd), x)) : CardAt w Ak x.key ck ∧ CardAt w Ad x.data cd := by
  obtain ⟨_, _, _, _, e, h1, h2⟩ := h
  injection e with e1 e2
  injection e1 with e1 _ e1c
  injection e2 with e2 _ e2c
  subst e1; subst e2; subst e1c; subst e2c
  exact ⟨h1, h2⟩
theorem all1 {w : World} {p : RV} (h : RecV w p) : ∀ x ∈ [p], RecV w x := fun x hx => by rw [List.mem_singleton.1 hx]; exact h
theorem all2 {w : World} {p q : RV} (h : RecV w p) (h2 : RecV w q) : ∀ x ∈ [p, q], RecV w x := fun x hx => by
  rcases List.mem_cons.1 hx with rfl | hx
  · exact h
  · exact all1 h2 x hx
theorem all3 {w : World} {p q r : RV} (h : RecV w p) (h2 : RecV w q) (h3 : RecV w r) : ∀ x ∈ [p, q, r], RecV w x := fun x hx => by
  rcases List.mem_cons.1 hx with rfl | hx
  · exact h
  · exact all2 h2 h3 x hx
theorem row_lit {W w : World} {F : List SA} (S : SL W F w) (ps : List RV) (hn : ps.length ≤ 1000) : SL W (rowS 25 4 (.slice (some ⟨w.heap.size, 0, none⟩) ps.length ps.length) ps.length (ps.flatMap recCells) :: F) (w.alloc (.cells (ps.flatMap recCells).toArray 25)) :=
  S.lit (ps.flatMap recCells).toArray 25 4 ps.length (by
    simp only [List.size_toArray]
    clear hn S
    induction ps with
    | nil => rfl
    | cons a l ih => simp only [List.flatMap_cons, List.length_append, ih, List.length_cons, recCells]; simp; omega) (by unfold maxLen; omega)
theorem recs_lit {w : World} (ps : List RV) (hv : ∀ p ∈ ps, RecV w p) (hn : ps.length ≤ 1000) : RecsAt (w.alloc (.cells (ps.flatMap recCells).toArray 25)) (some ⟨w.heap.size, 0, none⟩) (ps.map Prod.snd) :=
  recs_at' (row_lit (SL.start w) ps hn) fun p hp => (hv p hp).grow ((Below.refl _ _).alloc (Nat.le_refl _) _)
section
variable {W w : World} {F : List SA}
theorem rec_at (n : Int) (k d : List UInt8) (nk nd : Nat) (e1 : k.length = nk) (e2 : d.length = nd) (w : World) (hk : nk ≤ 1000) (hd : nd ≤ 1000) :
    Calls Try.prog 30 #[.int .i64 n, .string ⟨k.toArray⟩, .string ⟨d.toArray⟩] w fun e w' => ∃ Ak ck Ad cd, e = .returned (.agg #[.int .i64 n, .slice Ak nk ck, .slice Ad nd cd, .bool false]) ∧ RecV w' ((.slice Ak nk ck, .slice Ad nd cd), ⟨n, k, d, false⟩) ∧ Below w.heap.size w w' := by
  subst e1; subst e2
  refine (rec_any n k d w hk hd).mono ?_
  rintro e w' ⟨Ak, ck, Ad, cd, he, h1, h2, hb⟩
  exact ⟨Ak, ck, Ad, cd, he, ⟨Ak, ck, Ad, cd, rfl, h1, h2⟩, hb⟩
theorem data_at (z : Int) (n : Nat) (hz : z = n) (k : List UInt8) (nk : Nat) (e1 : k.length = nk) (w : World) (hk : nk ≤ 1000) (hn : n ≤ 100000) :
    Calls Try.prog 40 #[.int .i64 z, .string ⟨k.toArray⟩] w fun e w' => ∃ Ak ck Ad, e = .returned (.agg #[.int .i64 1, .slice Ak nk ck, .slice Ad n n, .bool false]) ∧ CardAt w' Ak k ck ∧ CardAt w' Ad (List.replicate n 0) n ∧ Below w.heap.size w w' := by
  subst hz; subst e1
  exact data_any n k w hk hn
theorem valid_lit (w : World) (ps : List RV) (n : Nat) (hn : ps.length = n) (h1000 : n ≤ 1000) (hv : ∀ p ∈ ps, RecV w p) (q : Bool) (hq : validB (ps.map Prod.snd) = q) (hf : ∀ p ∈ ps, p.2.key.length ≤ 1000 ∧ p.2.data.length ≤ 1000) :
    Calls Try.prog 26 #[.slice (some ⟨w.heap.size, 0, none⟩) n n] (w.alloc (.cells (ps.flatMap recCells).toArray 25)) fun e w' => e = .returned (.bool q) ∧ Below w.heap.size w w' := by
  subst hq; subst hn
  have h := valid_any (some ⟨w.heap.size, 0, none⟩) (ps.map Prod.snd) ps.length _ (recs_lit ps hv h1000) ⟨by rw [List.length_map]; omega, fun x hx => by
    obtain ⟨p, hp, rfl⟩ := List.mem_map.1 hx
    have := hf p hp; omega⟩
  rw [List.length_map] at h
  refine h.mono ?_
  rintro e w' ⟨he, b⟩
  exact ⟨he, ((Below.refl _ _).alloc (Nat.le_refl _) _).trans (b.mono (by rw [World.size_alloc]; omega))⟩
theorem fits_one (w : World) (x : Rec) (Ak Ad : Option Addr) (nk nd ck cd : Nat) (e1 : x.key.length = nk) (e2 : x.data.length = nd) (q : Bool) (hq : validB [x] = q) (hk : nk ≤ 10000) (hd : nd ≤ 10000) :
    Calls Try.prog 32 #[.slice none 0 0, .agg #[.int .i64 x.r, .slice Ak nk ck, .slice Ad nd cd, .bool x.bad]] w fun e w' => e = .returned (.bool q) ∧ Below w.heap.size w w' := by
  subst e1; subst e2; subst hq
  exact fits_any none [] 0 x Ak Ad ck cd w RecsAt.nil ⟨by simp, by simp⟩ (by omega)
theorem dec_short {b : List UInt8} (h : b.length < 8) : decP b = none := by
  have e := goP.eq_1 [] 0 0 b
  rw [dif_neg (by omega)] at e
  unfold decP
  rw [e]
  dsimp only
  rw [if_neg (by omega)]
def rA : Rec := ⟨1, [], [], false⟩
def rC : Rec := ⟨3, [], [], false⟩
def rD : Rec := ⟨2, [67], [120, 121], false⟩
def t3 : List Rec := [⟨1, [65], [112], false⟩, ⟨2, [67], [120, 121], false⟩, ⟨3, [69], [113], false⟩]
theorem t3fit : Fit t3 := ⟨by decide, fun x hx => by simp only [t3, List.mem_cons, List.not_mem_nil, or_false] at hx; rcases hx with rfl | rfl | rfl <;> decide⟩
set_option maxRecDepth 100000 in
set_option maxHeartbeats 40000000 in
theorem works_any (w : World) : Calls Try.prog 14 #[] w fun e w' => e = .returned (.bool true) ∧ Below w.heap.size w w' := by
  go_enter Try.func14, Try.ntmps14
  have HS0 := Lib.hid (SL.start w)
  go_wp2_with fail
  refine (rec_at 1 [] [48, 49, 50, 51, 52, 53, 54, 55, 56, 57] 0 10 rfl rfl _ (by decide) (by decide)).mono ?_
  rintro e w1 ⟨Ak1, ck1, Ad1, cd1, rfl, hv1, b⟩
  have HS1 := Lib.hid (HS0.out.grow b)
  clear b HS0
  have HV1 := Lib.hid hv1
  clear hv1
  go_wp2_with fail
  refine (show Calls _ _ _ _ (fun e w' => e = .returned (.int .i64 42) ∧ Below _ _ w') from cost_any 1 Ak1 Ad1 0 10 ck1 cd1 false _ (by decide) (by decide)).mono ?_
  rintro e w2 ⟨rfl, b⟩
  replace HV1 := Lib.hid (HV1.out.grow b)
  have HS2 := Lib.hid (HS1.out.grow b)
  clear b HS1
  clear HV1
  go_wp2_with fail
  refine (rec_at 1 [97, 98] [48, 49, 50, 51, 52, 53, 54, 55, 56, 57] 2 10 rfl rfl _ (by decide) (by decide)).mono ?_
  rintro e w3 ⟨Ak2, ck2, Ad2, cd2, rfl, hv2, b⟩
  have HS3 := Lib.hid (HS2.out.grow b)
  clear b HS2
  have HV2 := Lib.hid hv2
  clear hv2
  go_wp2_with fail
  refine (show Calls _ _ _ _ (fun e w' => e = .returned (.int .i64 60) ∧ Below _ _ w') from cost_any 1 Ak2 Ad2 2 10 ck2 cd2 false _ (by decide) (by decide)).mono ?_
  rintro e w4 ⟨rfl, b⟩
  replace HV2 := Lib.hid (HV2.out.grow b)
  have HS4 := Lib.hid (HS3.out.grow b)
  clear b HS3
  clear HV2
  go_wp2_with fail
  refine (show Calls _ _ _ _ (fun e w' => e = .returned (.int .i64 32) ∧ Below _ _ w') from cost_any 0 none none 0 0 0 0 false _ (by decide) (by decide)).mono ?_
  rintro e w5 ⟨rfl, b⟩
  have HS5 := Lib.hid (HS4.out.grow b)
  clear b HS4
  go_wp2_with fail
  refine (rec_at 1 [] [] 0 0 rfl rfl _ (by decide) (by decide)).mono ?_
  rintro e w6 ⟨Aka, cka, Ada, cda, rfl, hva, b⟩
  have HS6 := Lib.hid (HS5.out.grow b)
  clear b HS5
  have HVa := Lib.hid hva
  clear hva
  go_wp2_with fail
  refine (rec_at 3 [] [] 0 0 rfl rfl _ (by decide) (by decide)).mono ?_
  rintro e w7 ⟨Akc, ckc, Adc, cdc, rfl, hvc, b⟩
  replace HVa := Lib.hid (HVa.out.grow b)
  have HS7 := Lib.hid (HS6.out.grow b)
  clear b HS6
  have HVc := Lib.hid hvc
  clear hvc
  go_wp2_with fail
  refine (rec_at 2 [67] [120, 121] 1 2 rfl rfl _ (by decide) (by decide)).mono ?_
  rintro e w8 ⟨Akd, ckd, Add, cdd, rfl, hvd, b⟩
  replace HVa := Lib.hid (HVa.out.grow b)
  replace HVc := Lib.hid (HVc.out.grow b)
  have HS8 := Lib.hid (HS7.out.grow b)
  clear b HS7
  have HVd := Lib.hid hvd
  clear hvd
  go_upto_region 3 with fail
  refine name_world (P := Code.wp _ _ _ _) ?_
  intro wA hwA
  have bA : Below w8.heap.size w8 wA := by rw [hwA]; (repeat' (first | (with_reducible exact Below.refl _ _) | (with_reducible assumption) | (with_reducible refine below_drewN ?_ _) | (with_reducible refine Below.drew ?_) | (with_reducible refine Below.alloc ?_ ?_ _) | (with_reducible refine Below.setCell ?_ ?_ _) | (with_reducible refine below_row ?_ ?_ _) | (with_reducible exact Nat.le_refl _) | omega | (simp only [World.size_alloc, World.size_setCell, World.size_drew, World.size_drewN]; omega) | (simp; done) | (simp; omega)))
  have sA := SL.cast hwA (((HS8.out.allocC #[.int .i64 1, .slice Aka 0 cka, .slice Ada 0 cda, .bool false] 25).allocC #[.int .i64 3, .slice Akc 0 ckc, .slice Adc 0 cdc, .bool false] 25).allocC #[.int .i64 2, .slice Akd 1 ckd, .slice Add 2 cdd, .bool false] 25)
  simp only [World.size_alloc] at sA
  replace HVa := Lib.hid (HVa.out.grow bA)
  replace HVc := Lib.hid (HVc.out.grow bA)
  replace HVd := Lib.hid (HVd.out.grow bA)
  have HSA := Lib.hid sA
  clear hwA bA sA HS8
  generalize w8.heap.size + 1 + 1 = xd at *
  generalize w8.heap.size + 1 = xc at *
  generalize w8.heap.size = xa at *
  obtain ⟨La, Ka, za⟩ := HSA.out.s2.look
  obtain ⟨Lc, Kc, zc⟩ := HSA.out.s1.look
  go_wp2_with fail
  refine (valid_lit _ [((.slice Aka 0 cka, .slice Ada 0 cda), ⟨1, [], [], false⟩), ((.slice Akc 0 ckc, .slice Adc 0 cdc), ⟨3, [], [], false⟩)] 2 rfl (by decide) (all2 HVa.out HVc.out) true (by kernel_rfl) (by simp)).mono ?_
  rintro e w9 ⟨rfl, b⟩
  clear La Ka za
  clear Lc Kc zc
  replace HVa := Lib.hid (HVa.out.grow b)
  replace HVc := Lib.hid (HVc.out.grow b)
  replace HVd := Lib.hid (HVd.out.grow b)
  have HS9 := Lib.hid (HSA.out.grow b)
  clear b HSA
  obtain ⟨La, Ka, za⟩ := HS9.out.s2.look
  obtain ⟨Lc, Kc, zc⟩ := HS9.out.s1.look
  go_wp2_with fail
  refine (valid_lit _ [((.slice Akc 0 ckc, .slice Adc 0 cdc), ⟨3, [], [], false⟩), ((.slice Aka 0 cka, .slice Ada 0 cda), ⟨1, [], [], false⟩)] 2 rfl (by decide) (all2 HVc.out HVa.out) false (by kernel_rfl) (by simp)).mono ?_
  rintro e w10 ⟨rfl, b⟩
  clear La Ka za
  clear Lc Kc zc
  replace HVa := Lib.hid (HVa.out.grow b)
  replace HVc := Lib.hid (HVc.out.grow b)
  replace HVd := Lib.hid (HVd.out.grow b)
  have HS10 := Lib.hid (HS9.out.grow b)
  clear b HS9
  obtain ⟨La, Ka, za⟩ := HS10.out.s2.look
  obtain ⟨Lc, Kc, zc⟩ := HS10.out.s1.look
  go_wp2_with fail
  refine (valid_lit _ [((.slice Aka 0 cka, .slice Ada 0 cda), ⟨1, [], [], false⟩), ((.slice Aka 0 cka, .slice Ada 0 cda), ⟨1, [], [], false⟩)] 2 rfl (by decide) (all2 HVa.out HVa.out) false (by kernel_rfl) (by simp)).mono ?_
  rintro e w11 ⟨rfl, b⟩
  clear La Ka za
  clear Lc Kc zc
  replace HVa := Lib.hid (HVa.out.grow b)
  replace HVc := Lib.hid (HVc.out.grow b)
  replace HVd := Lib.hid (HVd.out.grow b)
  have HS11 := Lib.hid (HS10.out.grow b)
  clear b HS10
  go_wp2_with fail
  refine (rec_at 0 [] [] 0 0 rfl rfl _ (by decide) (by decide)).mono ?_
  rintro e w12 ⟨Ake, cke, Ade, cde, rfl, hve, b⟩
  replace HVa := Lib.hid (HVa.out.grow b)
  replace HVc := Lib.hid (HVc.out.grow b)
  replace HVd := Lib.hid (HVd.out.grow b)
  have HS12 := Lib.hid (HS11.out.grow b)
  clear b HS11
  have HVe := Lib.hid hve
  clear hve
  go_wp2_with fail
  refine (valid_lit _ [((.slice Ake 0 cke, .slice Ade 0 cde), ⟨0, [], [], false⟩)] 1 rfl (by decide) (all1 HVe.out) false (by kernel_rfl) (by simp)).mono ?_
  rintro e w13 ⟨rfl, b⟩
  replace HVa := Lib.hid (HVa.out.grow b)
  replace HVc := Lib.hid (HVc.out.grow b)
  replace HVd := Lib.hid (HVd.out.grow b)
  replace HVe := Lib.hid (HVe.out.grow b)
  have HS13 := Lib.hid (HS12.out.grow b)
  clear b HS12
  clear HVe
  go_wp2_with fail
  refine (rec_at 256 [] [] 0 0 rfl rfl _ (by decide) (by decide)).mono ?_
  rintro e w14 ⟨Akf, ckf, Adf, cdf, rfl, hvf, b⟩
  replace HVa := Lib.hid (HVa.out.grow b)
  replace HVc := Lib.hid (HVc.out.grow b)
  replace HVd := Lib.hid (HVd.out.grow b)
  have HS14 := Lib.hid (HS13.out.grow b)
  clear b HS13
  have HVf := Lib.hid hvf
  clear hvf
  go_wp2_with fail
  refine (valid_lit _ [((.slice Akf 0 ckf, .slice Adf 0 cdf), ⟨256, [], [], false⟩)] 1 rfl (by decide) (all1 HVf.out) false (by kernel_rfl) (by simp)).mono ?_
  rintro e w15 ⟨rfl, b⟩
  replace HVa := Lib.hid (HVa.out.grow b)
  replace HVc := Lib.hid (HVc.out.grow b)
  replace HVd := Lib.hid (HVd.out.grow b)
  replace HVf := Lib.hid (HVf.out.grow b)
  have HS15 := Lib.hid (HS14.out.grow b)
  clear b HS14
  clear HVf
  go_wp2_with fail
  refine (data_at 2016 2016 rfl [] 0 rfl _ (by decide) (by decide)).mono ?_
  rintro e w16 ⟨Akg, ckg, Adg, rfl, _, _, b⟩
  replace HVa := Lib.hid (HVa.out.grow b)
  replace HVc := Lib.hid (HVc.out.grow b)
  replace HVd := Lib.hid (HVd.out.grow b)
  have HS16 := Lib.hid (HS15.out.grow b)
  clear b HS15
  go_wp2_with fail
  refine (fits_one _ ⟨1, [], List.replicate 2016 0, false⟩ Akg Adg 0 2016 ckg 2016 rfl (by simp) true (by kernel_rfl) (by decide) (by decide)).mono ?_
  rintro e w17 ⟨rfl, b⟩
  replace HVa := Lib.hid (HVa.out.grow b)
  replace HVc := Lib.hid (HVc.out.grow b)
  replace HVd := Lib.hid (HVd.out.grow b)
  have HS17 := Lib.hid (HS16.out.grow b)
  clear b HS16
  go_wp2_with fail
  refine (data_at 2017 2017 rfl [] 0 rfl _ (by decide) (by decide)).mono ?_
  rintro e w18 ⟨Akh, ckh, Adh, rfl, _, _, b⟩
  replace HVa := Lib.hid (HVa.out.grow b)
  replace HVc := Lib.hid (HVc.out.grow b)
  replace HVd := Lib.hid (HVd.out.grow b)
  have HS18 := Lib.hid (HS17.out.grow b)
  clear b HS17
  go_wp2_with fail
  refine (fits_one _ ⟨1, [], List.replicate 2017 0, false⟩ Akh Adh 0 2017 ckh 2017 rfl (by simp) false (by kernel_rfl) (by decide) (by decide)).mono ?_
  rintro e w19 ⟨rfl, b⟩
  replace HVa := Lib.hid (HVa.out.grow b)
  replace HVc := Lib.hid (HVc.out.grow b)
  replace HVd := Lib.hid (HVd.out.grow b)
  have HS19 := Lib.hid (HS18.out.grow b)
  clear b HS18
  go_wp2_with fail
  refine (data_at 1999 1999 rfl [107] 1 rfl _ (by decide) (by decide)).mono ?_
  rintro e w20 ⟨Aki, cki, Adi, rfl, _, _, b⟩
  replace HVa := Lib.hid (HVa.out.grow b)
  replace HVc := Lib.hid (HVc.out.grow b)
  replace HVd := Lib.hid (HVd.out.grow b)
  have HS20 := Lib.hid (HS19.out.grow b)
  clear b HS19
  go_wp2_with fail
  refine (fits_one _ ⟨1, [107], List.replicate 1999 0, false⟩ Aki Adi 1 1999 cki 1999 rfl (by simp) true (by kernel_rfl) (by decide) (by decide)).mono ?_
  rintro e w21 ⟨rfl, b⟩
  replace HVa := Lib.hid (HVa.out.grow b)
  replace HVc := Lib.hid (HVc.out.grow b)
  replace HVd := Lib.hid (HVd.out.grow b)
  have HS21 := Lib.hid (HS20.out.grow b)
  clear b HS20
  go_wp2_with fail
  refine (data_at 2000 2000 rfl [107] 1 rfl _ (by decide) (by decide)).mono ?_
  rintro e w22 ⟨Akj, ckj, Adj, rfl, _, _, b⟩
  replace HVa := Lib.hid (HVa.out.grow b)
  replace HVc := Lib.hid (HVc.out.grow b)
  replace HVd := Lib.hid (HVd.out.grow b)
  have HS22 := Lib.hid (HS21.out.grow b)
  clear b HS21
  go_wp2_with fail
  refine (fits_one _ ⟨1, [107], List.replicate 2000 0, false⟩ Akj Adj 1 2000 ckj 2000 rfl (by simp) false (by kernel_rfl) (by decide) (by decide)).mono ?_
  rintro e w23 ⟨rfl, b⟩
  replace HVa := Lib.hid (HVa.out.grow b)
  replace HVc := Lib.hid (HVc.out.grow b)
  replace HVd := Lib.hid (HVd.out.grow b)
  have HS23 := Lib.hid (HS22.out.grow b)
  clear b HS22
  go_upto_region 6 with fail
  have hbase : SL w23 [] w23 := SL.start _
  have HSB := Lib.hid (show SL w (cel xd #[.int .i64 2, .slice Akd 1 ckd, .slice Add 2 cdd, .bool false] 25 :: cel xc #[.int .i64 3, .slice Akc 0 ckc, .slice Adc 0 cdc, .bool false] 25 :: cel xa #[.int .i64 1, .slice Aka 0 cka, .slice Ada 0 cda, .bool false] 25 :: []) w23 from HS23.out)
  refine wp_region_order (fun wx => Below w23.heap.size w23 wx) [] [1] [] [0, 2] [3, 4] (by kernel_rfl) (by kernel_rfl) (Below.refl _ _).drew (by intro c a d v w h; cases d <;> exact h) ?_
  simp only [pick, List.filterMap_cons, List.filterMap_nil, List.getElem?_cons_zero, List.getElem?_cons_succ]
  refine wpPure_nil ?_
  (repeat (with_reducible refine wpLoads_step ?_; intro K hK; go_simp; first | (with_reducible refine hK _ ?_; clear hK K) | (rw [if_neg (by decide)]; with_reducible refine hK _ ?_; clear hK K) | (refine ⟨_, fun wx hx => (by obtain ⟨f0, f1, f2⟩ := (HSB.out.grow hx).look; go_simp; with_reducible rfl), hK _ ?_⟩; clear hK K) | (refine ⟨_, fun _ _ => rfl, hK _ ?_⟩; clear hK K))); with_reducible refine wpLoads_nil ?_
  refine wpQuiet_nil ?_
  intro wq hwq
  have BQ := Lib.hid hwq
  clear hwq hbase
  (with_reducible refine wpKeep_step ?_; intro K hK; go_simp)
  refine (rec_at 1 [65] [112] 1 1 rfl rfl _ (by decide) (by decide)).mono ?_
  rintro e wr1 ⟨Akp, ckp, Adp, cdp, rfl, hvp, b1⟩
  refine hK _ _ (BQ.out.trans (b1.mono BQ.out.size)) ?_
  clear hK K
  (with_reducible refine wpKeep_step ?_; intro K hK; go_simp)
  refine (rec_at 3 [69] [113] 1 1 rfl rfl _ (by decide) (by decide)).mono ?_
  rintro e wr2 ⟨Akq, ckq, Adq, cdq, rfl, hvq, b2⟩
  have hb2 := (BQ.out.trans (b1.mono BQ.out.size)).trans (b2.mono (BQ.out.trans (b1.mono BQ.out.size)).size)
  refine hK _ _ hb2 ?_
  clear hK K
  refine wpKeep_nil ?_
  have HVp := Lib.hid (hvp.grow b2)
  have HVq := Lib.hid hvq
  replace HVa := Lib.hid (HVa.out.grow hb2)
  replace HVc := Lib.hid (HVc.out.grow hb2)
  replace HVd := Lib.hid (HVd.out.grow hb2)
  have HSC := Lib.hid (HS23.out.grow hb2)
  clear hvp hvq b1 b2 hb2 BQ HSB HS23
  go_upto_region 7 with fail
  refine name_world (P := Code.wp _ _ _ _) ?_
  intro wT hwT
  have bT : Below wr2.heap.size wr2 wT := by rw [hwT]; (repeat' (first | (with_reducible exact Below.refl _ _) | (with_reducible assumption) | (with_reducible refine below_drewN ?_ _) | (with_reducible refine Below.drew ?_) | (with_reducible refine Below.alloc ?_ ?_ _) | (with_reducible refine Below.setCell ?_ ?_ _) | (with_reducible refine below_row ?_ ?_ _) | (with_reducible exact Nat.le_refl _) | omega | (simp only [World.size_alloc, World.size_setCell, World.size_drew, World.size_drewN]; omega) | (simp; done) | (simp; omega)))
  have HT := Lib.hid (show RecsAt wT (some ⟨wr2.heap.size, 0, none⟩) t3 by rw [hwT]; exact recs_lit [((.slice Akp 1 ckp, .slice Adp 1 cdp), ⟨1, [65], [112], false⟩), ((.slice Akd 1 ckd, .slice Add 2 cdd), ⟨2, [67], [120, 121], false⟩), ((.slice Akq 1 ckq, .slice Adq 1 cdq), ⟨3, [69], [113], false⟩)] (all3 HVp.out HVd.out HVq.out) (by simp))
  clear HVa
  clear HVc
  clear HVd
  clear HVp
  clear HVq
  have HSD := Lib.hid (HSC.out.grow bT)
  clear hwT bT HSC
  generalize wr2.heap.size = xt at *
  go_wp2_with fail
  refine (show Calls _ _ _ _ (fun e w' => e = .returned (.bool true) ∧ Below _ _ w') from (by have h := lat_any (some ⟨xt, 0, none⟩) t3 3 0 [66] false (-1) _ HT.out (by decide) (by unfold maxLen; decide) (by decide); rw [show atB t3 0 [66] false (-1) = true by kernel_rfl] at h; exact h)).mono ?_
  rintro e w24 ⟨rfl, b⟩
  replace HT := Lib.hid (HT.out.grow b)
  have HS24 := Lib.hid (HSD.out.grow b)
  clear b HSD
  go_wp2_with fail
  refine (show Calls _ _ _ _ (fun e w' => e = .returned (.bool true) ∧ Below _ _ w') from (by have h := lat_any (some ⟨xt, 0, none⟩) t3 3 0 [66] true (1) _ HT.out (by decide) (by unfold maxLen; decide) (by decide); rw [show atB t3 0 [66] true (1) = true by kernel_rfl] at h; exact h)).mono ?_
  rintro e w25 ⟨rfl, b⟩
  replace HT := Lib.hid (HT.out.grow b)
  have HS25 := Lib.hid (HS24.out.grow b)
  clear b HS24
  go_wp2_with fail
  refine (show Calls _ _ _ _ (fun e w' => e = .returned (.bool true) ∧ Below _ _ w') from (by have h := lat_any (some ⟨xt, 0, none⟩) t3 3 2 [67] false (-1) _ HT.out (by decide) (by unfold maxLen; decide) (by decide); rw [show atB t3 2 [67] false (-1) = true by kernel_rfl] at h; exact h)).mono ?_
  rintro e w26 ⟨rfl, b⟩
  replace HT := Lib.hid (HT.out.grow b)
  have HS26 := Lib.hid (HS25.out.grow b)
  clear b HS25
  go_wp2_with fail
  refine (show Calls _ _ _ _ (fun e w' => e = .returned (.bool true) ∧ Below _ _ w') from (by have h := lat_any (some ⟨xt, 0, none⟩) t3 3 0 [70] true (-1) _ HT.out (by decide) (by unfold maxLen; decide) (by decide); rw [show atB t3 0 [70] true (-1) = true by kernel_rfl] at h; exact h)).mono ?_
  rintro e w27 ⟨rfl, b⟩
  replace HT := Lib.hid (HT.out.grow b)
  have HS27 := Lib.hid (HS26.out.grow b)
  clear b HS26
  go_wp2_with fail
  refine (rec_at 2 [] [110, 101, 119] 0 3 rfl rfl _ (by decide) (by decide)).mono ?_
  rintro e w28 ⟨Akn, ckn, Adn, cdn, rfl, hvn, b⟩
  replace HT := Lib.hid (HT.out.grow b)
  have HS28 := Lib.hid (HS27.out.grow b)
  clear b HS27
  have HVn := Lib.hid hvn
  clear hvn
  obtain ⟨h129, h229⟩ := HVn.out.get
  have hc := put_any (some ⟨xt, 0, none⟩) t3 3 ⟨2, [], [110, 101, 119], false⟩ Akn Adn ckn cdn (SL.start _) HT.out t3fit (by decide) h129 h229 (by decide)
  rw [show putR t3 ⟨2, [], [110, 101, 119], false⟩ = [⟨1, [65], [112], false⟩, ⟨2, [], [110, 101, 119], false⟩] by kernel_rfl, show putE t3 ⟨2, [], [110, 101, 119], false⟩ = 0 by kernel_rfl] at hc
  have HC := Lib.hid hc
  clear hc h129 h229
  clear HVn
  go_wp2_with fail
  refine HC.out.mono ?_
  rintro e w29 ⟨A29, c29, rfl, S29⟩
  have b := S29.below
  have HP := Lib.hid (recsS_at S29)
  replace HT := Lib.hid (HT.out.grow b)
  have HS29 := Lib.hid (HS28.out.grow b)
  clear b S29 HC HS28
  go_wp2_with fail
  refine (rec_at 2 [67] [108, 111, 110, 103] 1 4 rfl rfl _ (by decide) (by decide)).mono ?_
  rintro e w30 ⟨Akl, ckl, Adl, cdl, rfl, hvl, b⟩
  replace HT := Lib.hid (HT.out.grow b)
  replace HP := Lib.hid (HP.out.grow b)
  have HS30 := Lib.hid (HS29.out.grow b)
  clear b HS29
  have HVl := Lib.hid hvl
  clear hvl
  obtain ⟨h131, h231⟩ := HVl.out.get
  have hc := replace_any (some ⟨xt, 0, none⟩) t3 3 ⟨2, [67], [108, 111, 110, 103], false⟩ Akl Adl ckl cdl (SL.start _) HT.out t3fit h131 h231 (by decide)
  rw [show repR t3 ⟨2, [67], [108, 111, 110, 103], false⟩ = [] by kernel_rfl, show repE t3 ⟨2, [67], [108, 111, 110, 103], false⟩ = 2 by kernel_rfl] at hc
  have HC := Lib.hid hc
  clear hc h131 h231
  clear HVl
  go_wp2_with fail
  refine HC.out.mono ?_
  rintro e w31 ⟨A31, c31, rfl, S31⟩
  have b := S31.below
  replace HT := Lib.hid (HT.out.grow b)
  replace HP := Lib.hid (HP.out.grow b)
  have HS31 := Lib.hid (HS30.out.grow b)
  clear b S31 HC HS30
  go_wp2_with fail
  refine (rec_at 9 [] [] 0 0 rfl rfl _ (by decide) (by decide)).mono ?_
  rintro e w32 ⟨Akm, ckm, Adm, cdm, rfl, hvm, b⟩
  replace HT := Lib.hid (HT.out.grow b)
  replace HP := Lib.hid (HP.out.grow b)
  have HS32 := Lib.hid (HS31.out.grow b)
  clear b HS31
  have HVm := Lib.hid hvm
  clear hvm
  obtain ⟨h133, h233⟩ := HVm.out.get
  have hc := replace_any (some ⟨xt, 0, none⟩) t3 3 ⟨9, [], [], false⟩ Akm Adm ckm cdm (SL.start _) HT.out t3fit h133 h233 (by decide)
  rw [show repR t3 ⟨9, [], [], false⟩ = [] by kernel_rfl, show repE t3 ⟨9, [], [], false⟩ = 3 by kernel_rfl] at hc
  have HC := Lib.hid hc
  clear hc h133 h233
  clear HVm
  go_wp2_with fail
  refine HC.out.mono ?_
  rintro e w33 ⟨A33, c33, rfl, S33⟩
  have b := S33.below
  replace HT := Lib.hid (HT.out.grow b)
  replace HP := Lib.hid (HP.out.grow b)
  have HS33 := Lib.hid (HS32.out.grow b)
  clear b S33 HC HS32
  go_upto_region 11 with fail
  obtain ⟨gp, op, Ak0, ck0, Ad0, cd0, hA0, p0, p1, p2, p3, a1, a2⟩ := HP.out 0 _ rfl
  subst hA0
  obtain ⟨gp1, op1, Ak1x, ck1x, Ad1x, cd1x, hA0, q0, q1, q2, q3, a3, a4⟩ := HP.out 1 _ rfl
  injection hA0 with hA0
  injection hA0 with hA0 hA1
  subst hA0; subst hA1
  obtain ⟨gt, ot, Ak2x, ck2x, Ad2x, cd2x, hA0, t0, t1, t2, t3x, a5, a6⟩ := HT.out 0 _ rfl
  injection hA0 with hA0
  injection hA0 with hA0 hA1
  subst hA0; subst hA1
  simp only [Nat.zero_mul, Nat.add_zero, Nat.zero_add, Nat.one_mul, Nat.add_assoc, Nat.reduceAdd, List.length_cons, List.length_nil] at p0 p1 p2 p3 q0 q1 q2 q3 t0 t1 t2 t3x
  have zp := World.block_lt_of_cell? _ _ p0
  have zt := World.block_lt_of_cell? _ _ t0
  have HLX := Lib.hid (fun (wx : World) (hx : Below w33.heap.size w33 wx) => And.intro ((hx.cell (p := ⟨gp, op, none⟩) zp).trans p0) (And.intro ((hx.cell (p := ⟨gp, op + 1, none⟩) zp).trans p1) (And.intro ((hx.cell (p := ⟨gp, op + 2, none⟩) zp).trans p2) (And.intro ((hx.cell (p := ⟨gp, op + 3, none⟩) zp).trans p3) (And.intro ((hx.cell (p := ⟨gp, op + 4, none⟩) zp).trans q0) (And.intro ((hx.cell (p := ⟨gp, op + 5, none⟩) zp).trans q1) (And.intro ((hx.cell (p := ⟨gp, op + 6, none⟩) zp).trans q2) (And.intro ((hx.cell (p := ⟨gp, op + 7, none⟩) zp).trans q3) (And.intro ((hx.cell (p := ⟨xt, 0, none⟩) zt).trans t0) (And.intro ((hx.cell (p := ⟨xt, 1, none⟩) zt).trans t1) (And.intro ((hx.cell (p := ⟨xt, 2, none⟩) zt).trans t2) ((hx.cell (p := ⟨xt, 3, none⟩) zt).trans t3x))))))))))))
  have HEQ0 := Lib.hid (fun (wx : World) (hx : Below w33.heap.size w33 wx) => equal2_any ⟨1, [65], [112], false⟩ Ak0 Ad0 Ak2x Ad2x ck0 cd0 ck2x cd2x wx (a1.grow hx) (a2.grow hx) (a5.grow hx) (a6.grow hx))
  have HEQ1 := Lib.hid (fun (wx : World) (hx : Below w33.heap.size w33 wx) (Bk Bd : Option Addr) (dk dd : Nat) (h : RecV wx ((.slice Bk 0 dk, .slice Bd 3 dd), ⟨2, [], [110, 101, 119], false⟩)) => equal2_any ⟨2, [], [110, 101, 119], false⟩ Ak1x Ad1x Bk Bd ck1x cd1x dk dd wx (a3.grow hx) (a4.grow hx) h.get.1 h.get.2)
  clear p0 p1 p2 p3 q0 q1 q2 q3 t0 t1 t2 t3x a1 a2 a3 a4 a5 a6 zp zt
  refine wp_region_order5 (fun wx => Below w33.heap.size w33 wx) [0, 1, 2, 3, 4, 5, 6, 7, 8, 9, 11, 12] [10, 13] [14, 15, 16] [17, 18, 19] [20] [21, 22, 23, 24, 25, 26, 27, 28, 29, 30, 31] (by kernel_rfl) (by kernel_rfl) (Below.refl _ _).drew (by intro c a d v w h; cases d <;> exact h) ?_
  simp only [pick, List.filterMap_cons, List.filterMap_nil, List.getElem?_cons_zero, List.getElem?_cons_succ]
  (repeat (with_reducible refine wpPure_step ?_; intro K hK; go_simp; with_reducible refine hK _ ?_; clear hK K))
  refine wpPure_nil ?_
  (repeat (with_reducible refine wpLoads_step ?_; intro K hK; go_simp; first | (with_reducible refine hK _ ?_; clear hK K) | (rw [if_neg (by decide)]; with_reducible refine hK _ ?_; clear hK K) | (refine ⟨_, fun wx hx => (by obtain ⟨p0, p1, p2, p3, q0, q1, q2, q3, t0, t1, t2, t3x⟩ := HLX.out wx hx; go_simp; with_reducible rfl), hK _ ?_⟩; clear hK K) | (refine ⟨_, fun _ _ => rfl, hK _ ?_⟩; clear hK K))); with_reducible refine wpLoads_nil ?_
  (with_reducible refine wpKeep_step ?_; intro K hK; go_simp)
  refine (HEQ0.out _ (Below.refl _ _).drew).mono ?_
  rintro e wu1 ⟨rfl, b1⟩
  have B1 := Lib.hid (show Below w33.heap.size w33 wu1 from (Below.refl _ _).drew.trans (b1.mono (Nat.le_refl _)))
  clear b1
  refine hK _ _ B1.out ?_
  clear hK K
  (with_reducible refine wpKeep_step ?_; intro K hK; go_simp; first | (with_reducible refine hK _ _ (B1.out) ?_; clear hK K) | (rw [if_neg (by decide)]; with_reducible refine hK _ _ (B1.out) ?_; clear hK K))
  (with_reducible refine wpKeep_step ?_; intro K hK; go_simp; first | (with_reducible refine hK _ _ (B1.out) ?_; clear hK K) | (rw [if_neg (by decide)]; with_reducible refine hK _ _ (B1.out) ?_; clear hK K))
  refine wpKeep_nil ⟨B1.out, ?_⟩
  (repeat (with_reducible refine wpLoads_step ?_; intro K hK; go_simp; first | (with_reducible refine hK _ ?_; clear hK K) | (rw [if_neg (by decide)]; with_reducible refine hK _ ?_; clear hK K) | (refine ⟨_, fun wx hx => (by obtain ⟨p0, p1, p2, p3, q0, q1, q2, q3, t0, t1, t2, t3x⟩ := HLX.out wx hx; go_simp; with_reducible rfl), hK _ ?_⟩; clear hK K) | (refine ⟨_, fun _ _ => rfl, hK _ ?_⟩; clear hK K))); with_reducible refine wpLoads_nil ?_
  (with_reducible refine wpKeep_step ?_; intro K hK; go_simp)
  refine (rec_at 2 [] [110, 101, 119] 0 3 rfl rfl _ (by decide) (by decide)).mono ?_
  rintro e wu2 ⟨Aks, cks, Ads, cds, rfl, hvs, b2⟩
  have B2 := Lib.hid (B1.out.trans (b2.mono B1.out.size))
  have HVs := Lib.hid hvs
  clear hvs b2
  refine hK _ _ B2.out ?_
  clear hK K
  refine wpKeep_nil ?_
  go_wp2_with fail
  refine (HEQ1.out _ B2.out _ _ _ _ HVs.out).mono ?_
  rintro e wu3 ⟨rfl, b3⟩
  have HSE := Lib.hid (HS33.out.grow (B2.out.trans (b3.mono B2.out.size)))
  clear b3 B1 B2 HVs HLX HEQ0 HEQ1 HP HT HS33
  go_wp2_with fail
  refine (rec_at 3 [75] [68, 69] 1 2 rfl rfl _ (by decide) (by decide)).mono ?_
  rintro e w34 ⟨Akk, ckk, Adk, cdk, rfl, hvk, b⟩
  have HS34 := Lib.hid (HSE.out.grow b)
  clear b HSE
  have HVk := Lib.hid hvk
  clear hvk
  have hc := encode_any (some ⟨w34.heap.size, 0, none⟩) [⟨3, [75], [68, 69], false⟩] 1 1 2 (SL.start _) (recs_lit [((.slice Akk 1 ckk, .slice Adk 2 cdk), ⟨3, [75], [68, 69], false⟩)] (all1 HVk.out) (by simp)) ⟨by decide, fun x hx => by rw [List.mem_singleton.1 hx]; decide⟩
  rw [show encB 1 2 [⟨3, [75], [68, 69], false⟩] = [0, 1, 0, 2, 3, 1, 0, 2, 75, 68, 69, 255, 255, 255, 255, 255, 255, 255, 255] by kernel_rfl, show encE 1 2 [⟨3, [75], [68, 69], false⟩] = 0 by kernel_rfl] at hc
  have HC := Lib.hid hc
  clear hc
  clear HVk
  go_wp2_with fail
  refine HC.out.mono ?_
  rintro e w35 ⟨Ae, ce, rfl, S2⟩
  have HEN := Lib.hid (rowS_card (l := [0, 1, 0, 2, 3, 1, 0, 2, 75, 68, 69, 255, 255, 255, 255, 255, 255, 255, 255]) S2)
  have HSF := Lib.hid (HS34.out.grow (((Below.refl _ _).alloc (Nat.le_refl _) _).trans (S2.below.mono (by rw [World.size_alloc]; omega))))
  clear S2 HC HS34
  obtain ⟨cz36, wz36, rz36, hz36, bz36⟩ := bytes_str (P := Try.prog) w35 9 23 5 [255, 255, 255, 255, 255, 255, 255, 255] Try.underlying9 Try.underlying23 Try.underlying5 (by decide)
  have hc := decode_any _ [255, 255, 255, 255, 255, 255, 255, 255] cz36 (SL.start wz36) hz36 (by decide)
  rw [show decP [255, 255, 255, 255, 255, 255, 255, 255] = some (0, 0, []) from dec_enc (c := 0) (h := 0) (t := []) (by decide) (by decide) rfl (by simp)] at hc
  have HC := Lib.hid hc
  clear hc
  have BZ := Lib.hid bz36
  clear bz36 hz36
  go_wp2_with fail
  skip
  refine HC.out.mono ?_
  rintro e w36 ⟨A36, c36, rfl, S2⟩
  simp only [Dec3.c, Dec3.h, Dec3.t, Dec3.e, List.length_nil]
  replace HEN := Lib.hid (HEN.out.grow (BZ.out.trans (S2.below.mono BZ.out.size)))
  have HS36 := Lib.hid (HSF.out.grow (BZ.out.trans (S2.below.mono BZ.out.size)))
  clear S2 HC HSF BZ rz36
  obtain ⟨cz37, wz37, rz37, hz37, bz37⟩ := bytes_str (P := Try.prog) w36 9 23 5 [255, 255, 255, 255, 255, 255, 255] Try.underlying9 Try.underlying23 Try.underlying5 (by decide)
  have hc := decode_any _ [255, 255, 255, 255, 255, 255, 255] cz37 (SL.start wz37) hz37 (by decide)
  rw [show decP [255, 255, 255, 255, 255, 255, 255] = none from dec_short (by decide)] at hc
  have hex : (⟨#[255, 255, 255, 255, 255, 255, 255, 255]⟩ : ByteArray).extract 0 7 = ⟨#[255, 255, 255, 255, 255, 255, 255]⟩ := by rfl
  have HC := Lib.hid hc
  clear hc
  have BZ := Lib.hid bz37
  clear bz37 hz37
  go_wp2_with fail
  skip
  refine HC.out.mono ?_
  rintro e w37 ⟨A37, c37, rfl, S2⟩
  simp only [Dec3.c, Dec3.h, Dec3.t, Dec3.e, List.length_nil]
  replace HEN := Lib.hid (HEN.out.grow (BZ.out.trans (S2.below.mono BZ.out.size)))
  have HS37 := Lib.hid (HS36.out.grow (BZ.out.trans (S2.below.mono BZ.out.size)))
  clear S2 HC HS36 BZ rz37
  have hc := decode_any none [] 0 (SL.start w37) ⟨At.nil_, by decide, by unfold maxLen; decide⟩ (by decide)
  rw [show decP [] = none from dec_short (by decide)] at hc
  have HC := Lib.hid hc
  clear hc
  go_wp2_with fail
  skip
  refine HC.out.mono ?_
  rintro e w38 ⟨A38, c38, rfl, S2⟩
  simp only [Dec3.c, Dec3.h, Dec3.t, Dec3.e, List.length_nil]
  replace HEN := Lib.hid (HEN.out.grow S2.below)
  have HS38 := Lib.hid (HS37.out.grow S2.below)
  clear S2 HC HS37
  have HC1 : (convert 23 9 (.slice Ae 19 ce)).run Try.prog w38 = .ok (.string ⟨([0, 1, 0, 2, 3, 1, 0, 2, 75, 68, 69, 255, 255, 255, 255, 255, 255, 255, 255] : List UInt8).toArray⟩) w38 := run_string_of_at (P := Try.prog) (w := w38) 23 9 5 Try.underlying23 Try.underlying5 Try.underlying9 [0, 1, 0, 2, 3, 1, 0, 2, 75, 68, 69, 255, 255, 255, 255, 255, 255, 255, 255] ce HEN.out.1
  have hap : ((⟨#[0, 1, 0, 2, 3, 1, 0, 2, 75, 68, 69]⟩ : ByteArray) ++ (⟨#[255, 255, 255, 255, 255, 255, 255, 255]⟩ : ByteArray)) = ⟨([0, 1, 0, 2, 3, 1, 0, 2, 75, 68, 69, 255, 255, 255, 255, 255, 255, 255, 255] : List UInt8).toArray⟩ := by rfl
  generalize (⟨([0, 1, 0, 2, 3, 1, 0, 2, 75, 68, 69, 255, 255, 255, 255, 255, 255, 255, 255] : List UInt8).toArray⟩ : ByteArray) = sz at *
  have hss : (sz.toList == sz.toList) = true := by simp
  go_wp2
  go_ret
  exact ⟨rfl, HS38.out.below⟩
end
end Go.Proofs.Ytelfihgkbbaifaa
