/- One of the reference, bytes.Clone, and clone of the program: a record in new memory. -/
import Derived.Test.YtmkndbledppniaaGreatFind
import Derived.Test.YtmkndbledppniaaGreatKitA
import Derived.WalkSpells
namespace Go.Proofs.YtmkndbledppniaaGreat
open Go.RowKit
section
variable {W w : World} {F : List SA}
/-- What a function leaves that returns a record in new memory. -/
def RetO (W : World) (F : List SA) (x : Rec) (e : Ending) (w' : World) : Prop :=
  ∃ vk vd, e = .returned (.agg #[.int .i64 x.r, vk, vd, .bool x.bad]) ∧ SL W (rowS 5 1 vk x.key.length (Lib.byteCells x.key) :: rowS 5 1 vd x.data.length (Lib.byteCells x.data) :: F) w'
theorem bclone_any (A : Option Addr) (l : List UInt8) (c : Nat) (S : SL W F w) (hr : At w w.heap.size A (Lib.byteCells l)) (hl : l.length ≤ 140737488355328) :
    Calls Tryz.prog 108 #[.slice A l.length c] w fun e w' => ∃ v, e = .returned v ∧ SL W (rowS 5 1 v l.length (Lib.byteCells l) :: F) w' := by
  have HA := Lib.hid hr
  have HS := Lib.hid S
  clear S
  have qT : ∀ (w : World) (a : Option Addr) (n c : Nat), (binOp .eql 34 (.slice a n c) (.slice none 0 0)).run Tryz.prog w = .ok (.bool a.isNone) w := fun w a n c => Lib.run_eql_slice_nil w _ _ _ _ _ _ _ Tryz.underlying34
  go_enter Tryz.func108, Tryz.ntmps108
  cases A with
  | none =>
    have : l = [] := by
      rcases l with _ | ⟨x, l⟩
      · rfl
      · obtain ⟨b, off, h, _⟩ := HA.out (by simp [Lib.byteCells])
        cases h
    subst this
    go_wp2
    go_ret
    exact ⟨_, rfl, HS.out.nil _ _⟩
  | some ad =>
    go_wp2_with (at_builtin; refine wpList_appS rfl _ _ _ rfl bElem _ 0 [] rfl (HS.out.lit #[] 5 1 0 rfl (by decide)) _ (some ad) l.length c (Lib.byteCells l) rfl (HA.out.alloc (Nat.le_refl _) _) (by rw [byteCells_len, Nat.mul_one]) (byteCells_one _) (by unfold maxLen; omega) (by omega) ?_
                 intro A2 c2 w2 S2)
    go_ret
    simp only [Nat.zero_add, List.nil_append] at S2 ⊢
    exact ⟨_, rfl, S2⟩
theorem SL.set4 {x : Nat} {v0 v1 v2 v3 u0 u1 u2 u3 : Value} {t : TypeId} {r : List SA} (S : SL W (cel x #[v0, v1, v2, v3] t :: r) w) : SL W (cel x #[u0, u1, u2, u3] t :: r) ((((w.setCell ⟨x, 0, none⟩ u0).setCell ⟨x, 1, none⟩ u1).setCell ⟨x, 2, none⟩ u2).setCell ⟨x, 3, none⟩ u3) :=
  (((S.set (off := 0) (v := u0) (cs' := #[u0, v1, v2, v3]) rfl).set (off := 1) (v := u1) (cs' := #[u0, u1, v2, v3]) rfl).set (off := 2) (v := u2) (cs' := #[u0, u1, u2, v3]) rfl).set (off := 3) (v := u3) (cs' := #[u0, u1, u2, u3]) rfl
set_option maxHeartbeats 4000000 in
theorem one_any (x : Rec) (Ak Ad : Option Addr) (ck cd : Nat) (S : SL W F w) (hk : CardAt w Ak x.key ck) (hd : CardAt w Ad x.data cd) (hl : x.key.length ≤ 140737488355328 ∧ x.data.length ≤ 140737488355328) :
    Calls Tryz.prog 72 #[.agg #[.int .i64 x.r, .slice Ak x.key.length ck, .slice Ad x.data.length cd, .bool x.bad]] w (RetO W F x) := by
  have HS := Lib.hid S
  have HK := Lib.hid hk.1
  have HD := Lib.hid hd.1
  obtain ⟨hl1, hl2⟩ := hl
  clear S hk hd
  obtain ⟨r, k, d, b⟩ := x
  dsimp only at *
  have H1 := Lib.hid (show SL w (rowS 5 1 (.slice (some ⟨w.heap.size + 1 + 1, 0, none⟩) 0 0) 0 [] :: cel (w.heap.size + 1) #[.int .i64 0, .slice none 0 0, .slice none 0 0, .bool false] 62 :: cel w.heap.size #[.int .i64 r, .slice Ak k.length ck, .slice Ad d.length cd, .bool b] 62 :: [])
      (((w.alloc (.cells #[.int .i64 r, .slice Ak k.length ck, .slice Ad d.length cd, .bool b] 62)).alloc (.cells #[.int .i64 0, .slice none 0 0, .slice none 0 0, .bool false] 62)).alloc (.cells #[] 5)) from by
    have h := (((SL.start w).allocC #[.int .i64 r, .slice Ak k.length ck, .slice Ad d.length cd, .bool b] 62).allocC #[.int .i64 0, .slice none 0 0, .slice none 0 0, .bool false] 62).lit #[] 5 1 0 rfl (by decide)
    simpa only [World.size_alloc] using h)
  go_enter Tryz.func72, Tryz.ntmps72
  go_wp2_with (first
    | (at_builtin; refine wpList_appS rfl _ _ _ rfl bElem _ 0 [] rfl H1.out w.heap.size Ak k.length ck (Lib.byteCells k) rfl (HK.out.below H1.out.1) (by rw [byteCells_len, Nat.mul_one]) (byteCells_one _) (by unfold maxLen; omega) (by omega) ?_
       intro A2 c2 w2 S2
       rw [Nat.zero_add, List.nil_append] at S2
       rw [Nat.zero_add]
       have H2 := Lib.hid S2
       clear S2 H1
       obtain ⟨L2, K2, z2⟩ := H2.out.s1.look
       obtain ⟨L1, K1, z1⟩ := H2.out.s2.look
       have hne := H2.out.s2.s2.cne
       generalize w.heap.size + 1 = b2 at *
       have HB := Lib.hid (rfl : w.heap.size = w.heap.size)
       generalize hb1 : w.heap.size = b1 at *
       have H3 := Lib.hid (show SL w (rowS 5 1 (.slice (some ⟨w2.heap.size, 0, none⟩) 0 0) 0 [] :: cel b1 #[.int .i64 r, .slice A2 k.length c2, .slice Ad d.length cd, .bool b] 62 :: rowS 5 1 (.slice A2 k.length c2) k.length (Lib.byteCells k) :: cel b2 #[.int .i64 0, .slice none 0 0, .slice none 0 0, .bool false] 62 :: [])
         ((w2.setCell ⟨b1, 1, none⟩ (.slice A2 k.length c2)).alloc (.cells #[] 5)) from by
         have h := (H2.out.s2.set (off := 1) (v := .slice A2 k.length c2) (cs' := #[.int .i64 r, .slice A2 k.length c2, .slice Ad d.length cd, .bool b]) rfl).lit #[] 5 1 0 rfl (by decide)
         simpa only [World.size_setCell] using h))
    | (at_builtin; refine wpList_appS rfl _ _ _ rfl bElem _ 0 [] rfl H3.out b1 Ad d.length cd (Lib.byteCells d) rfl (HD.out.below (hb1 ▸ H3.out.1)) (by rw [byteCells_len, Nat.mul_one]) (byteCells_one _) (by unfold maxLen; omega) (by omega) ?_
       intro A4 c4 w4 S4
       rw [Nat.zero_add, List.nil_append] at S4
       rw [Nat.zero_add]
       have H4 := Lib.hid S4
       clear S4 H3 H2 L1 K1 z1 L2 K2 z2
       obtain ⟨L1, K1, z1⟩ := H4.out.s1.look
       obtain ⟨L2, K2, z2⟩ := H4.out.s3.look))
  have HE := Lib.hid (((H4.out.s1.set (off := 2) (v := .slice A4 d.length c4) (cs' := #[.int .i64 r, .slice A2 k.length c2, .slice A4 d.length c4, .bool b]) rfl).s3).set4 (u0 := .int .i64 r) (u1 := .slice A2 k.length c2) (u2 := .slice A4 d.length c4) (u3 := .bool b))
  obtain ⟨L, _, _⟩ := HE.out.look
  exact bodyPost_ret (v := .agg #[.int .i64 r, .slice A2 k.length c2, .slice A4 d.length c4, .bool b]) (by simp [results, Tryz.results72, go_sem, L]) rfl ⟨_, _, rfl, HS.out.join HE.out.drop.drop.s1⟩
set_option maxHeartbeats 4000000 in
theorem clone_any (x : Rec) (Ak Ad : Option Addr) (ck cd : Nat) (S : SL W F w) (hk : CardAt w Ak x.key ck) (hd : CardAt w Ad x.data cd) (hl : x.key.length ≤ 140737488355328 ∧ x.data.length ≤ 140737488355328) :
    Calls Tryz.prog 101 #[.agg #[.int .i64 x.r, .slice Ak x.key.length ck, .slice Ad x.data.length cd, .bool x.bad]] w (RetO W F x) := by
  have HS := Lib.hid S
  have HK := Lib.hid hk.1
  have HD := Lib.hid hd.1
  obtain ⟨hl1, hl2⟩ := hl
  clear S hk hd
  obtain ⟨r, k, d, b⟩ := x
  dsimp only at *
  go_enter Tryz.func101, Tryz.ntmps101
  go_upto_region 1 with fail
  refine name_world (P := Code.wp _ _ _ _) ?_
  intro wd hwd
  have H1 := Lib.hid (show SL w (cel (w.heap.size + 1) #[.int .i64 0, .slice none 0 0, .slice none 0 0, .bool false] 62 :: cel w.heap.size #[.int .i64 r, .slice Ak k.length ck, .slice Ad d.length cd, .bool b] 62 :: []) wd from by
    rw [hwd]
    have h := ((SL.start w).allocC #[.int .i64 r, .slice Ak k.length ck, .slice Ad d.length cd, .bool b] 62).allocC #[.int .i64 0, .slice none 0 0, .slice none 0 0, .bool false] 62
    simpa only [World.size_alloc] using h)
  clear hwd
  generalize w.heap.size + 1 = b2 at *
  generalize hb1 : w.heap.size = b1 at *
  refine wp_region_order5 (SL w (cel b2 #[.int .i64 0, .slice none 0 0, .slice none 0 0, .bool false] 62 :: cel b1 #[.int .i64 r, .slice Ak k.length ck, .slice Ad d.length cd, .bool b] 62 :: [])) [0, 3] [1, 4] [2] [6] [5] [7, 8, 9] (by kernel_rfl) (by kernel_rfl) H1.out.drew (by intro c a d v w h; cases d <;> exact h) ?_
  simp only [pick, List.filterMap_cons, List.filterMap_nil, List.getElem?_cons_zero, List.getElem?_cons_succ]
  (repeat (refine wpPure_step (fun K hK => ?_); go_simp; refine hK _ ?_; clear hK K)); refine wpPure_nil ?_
  (repeat (with_reducible refine wpLoads_step ?_; intro K hK; go_simp; first | (with_reducible refine hK _ ?_; clear hK K) | (rw [if_neg (by decide)]; with_reducible refine hK _ ?_; clear hK K) | (refine ⟨_, fun wx hx => (by obtain ⟨f0, f1, f2⟩ := hx.s1.look; go_simp; with_reducible rfl), hK _ ?_⟩; clear hK K) | (refine ⟨_, fun _ _ => rfl, hK _ ?_⟩; clear hK K))); with_reducible refine wpLoads_nil ?_
  have H2 := Lib.hid H1.out.drew
  clear H1
  (with_reducible refine wpKeep_step ?_; intro K hK; go_simp)
  refine (bclone_any Ak k ck H2.out ((HK.out.below (hb1 ▸ H2.out.1)).mono (hb1 ▸ H2.out.1.size)) hl1).mono ?_
  rintro e w3 ⟨vk, rfl, S3⟩
  have H3 := Lib.hid S3
  refine hK _ _ S3.drop ?_
  clear hK K S3 H2
  refine wpKeep_nil ⟨H3.out.drop, ?_⟩
  (repeat (with_reducible refine wpLoads_step ?_; intro K hK; go_simp; first | (with_reducible refine hK _ ?_; clear hK K) | (rw [if_neg (by decide)]; with_reducible refine hK _ ?_; clear hK K) | (refine ⟨_, fun wx hx => (by skip; go_simp; with_reducible rfl), hK _ ?_⟩; clear hK K) | (refine ⟨_, fun _ _ => rfl, hK _ ?_⟩; clear hK K))); with_reducible refine wpLoads_nil ?_
  (with_reducible refine wpKeep_step ?_; intro K hK; go_simp)
  refine (bclone_any Ad d cd H3.out ((HD.out.below (hb1 ▸ H3.out.1)).mono (hb1 ▸ H3.out.1.size)) hl2).mono ?_
  rintro e w4 ⟨vd, rfl, S4⟩
  have H4 := Lib.hid S4
  refine hK _ _ S4.drop.drop ?_
  clear hK K S4 H3
  refine wpKeep_nil ?_
  obtain ⟨A4, c4, e4, _, _⟩ := own_slice H4.out.own
  obtain ⟨A3, c3, e3, _, _⟩ := own_slice H4.out.s1.own
  subst e4; subst e3
  obtain ⟨L1, K1, z1⟩ := H4.out.s3.look
  obtain ⟨L2, K2, z2⟩ := H4.out.s2.look
  have hne := H4.out.s3.s3.cne
  go_wp2
  have HE := Lib.hid ((((H4.out.s3.set (off := 1) (v := .slice A3 k.length c3) (cs' := #[.int .i64 r, .slice A3 k.length c3, .slice Ad d.length cd, .bool b]) rfl).set (off := 2) (v := .slice A4 d.length c4) (cs' := #[.int .i64 r, .slice A3 k.length c3, .slice A4 d.length c4, .bool b]) rfl).s3).set4 (u0 := .int .i64 r) (u1 := .slice A3 k.length c3) (u2 := .slice A4 d.length c4) (u3 := .bool b))
  obtain ⟨L, _, _⟩ := HE.out.look
  exact bodyPost_ret (v := .agg #[.int .i64 r, .slice A3 k.length c3, .slice A4 d.length c4, .bool b]) (by simp [results, Tryz.results101, go_sem, L]) rfl ⟨_, _, rfl, HS.out.join HE.out.drop.drop.s1⟩
end
end Go.Proofs.YtmkndbledppniaaGreat
