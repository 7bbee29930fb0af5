/- DOne, DCopy, DFew, DEq, DSearch, DRSearch. -/
import Derived.Test.YtfhpaehfihnjaaaGreatDA
import Derived.Test.YtfhpaehfihnjaaaGreatKitA
import Derived.WalkSpells
import Derived.Lib.Bytealg
import Derived.Lib.BytesEntry
import Derived.Laws.Externs
set_option maxRecDepth 100000
namespace Go.Proofs.YtfhpaehfihnjaaaGreat.D
open Go.RowKit
section
variable {W w : World} {F : List SA}
def RetO (W : World) (F : List SA) (x : Rec) (e : Ending) (w' : World) : Prop :=
  ∃ vk vd, e = .returned (.agg #[.int .i64 x.r, vk, vd, .bool x.bad]) ∧ SL W (rowS 5 1 vk x.key.length (Lib.byteCells x.key) :: rowS 5 1 vd x.data.length (Lib.byteCells x.data) :: F) w'
theorem bclone_any (A : Option Addr) (l : List UInt8) (c : Nat) (S : SL W F w) (hr : At w w.heap.size A (Lib.byteCells l)) (hl : l.length ≤ 140737488355328) :
    Calls Tryz.prog 266 #[.slice A l.length c] w fun e w' => ∃ v, e = .returned v ∧ SL W (rowS 5 1 v l.length (Lib.byteCells l) :: F) w' := by
  have HA := Lib.hid hr
  have HS := Lib.hid S
  clear S
  have qT : ∀ (w : World) (a : Option Addr) (n c : Nat), (binOp .eql 50 (.slice a n c) (.slice none 0 0)).run Tryz.prog w = .ok (.bool a.isNone) w := fun w a n c => Lib.run_eql_slice_nil w _ _ _ _ _ _ _ Tryz.underlying50
  go_enter Tryz.func266, Tryz.ntmps266
  cases A with
  | none =>
    have : l = [] := by
      rcases l with _ | ⟨x, l⟩
      · rfl
      · obtain ⟨b, off, h, _⟩ := HA.out (by simp [Lib.byteCells])
        cases h
    subst this
    go_wp2
    go_ret
    exact ⟨_, rfl, HS.out.nil _ _⟩
  | some ad =>
    go_wp2_with (at_builtin; refine wpList_appS rfl _ _ _ rfl bElem _ 0 [] rfl (HS.out.lit #[] 5 1 0 rfl (by decide)) _ (some ad) l.length c (Lib.byteCells l) rfl (HA.out.alloc (Nat.le_refl _) _) (by rw [byteCells_len, Nat.mul_one]) (byteCells_one _) (by unfold maxLen; omega) (by omega) ?_
                 intro A2 c2 w2 S2)
    go_ret
    simp only [Nat.zero_add, List.nil_append] at S2 ⊢
    exact ⟨_, rfl, S2⟩
theorem _root_.Go.Proofs.YtfhpaehfihnjaaaGreat.SL.set4 {x : Nat} {v0 v1 v2 v3 u0 u1 u2 u3 : Value} {t : TypeId} {r : List SA} (S : SL W (cel x #[v0, v1, v2, v3] t :: r) w) : SL W (cel x #[u0, u1, u2, u3] t :: r) ((((w.setCell ⟨x, 0, none⟩ u0).setCell ⟨x, 1, none⟩ u1).setCell ⟨x, 2, none⟩ u2).setCell ⟨x, 3, none⟩ u3) :=
  (((S.set (off := 0) (v := u0) (cs' := #[u0, v1, v2, v3]) rfl).set (off := 1) (v := u1) (cs' := #[u0, u1, v2, v3]) rfl).set (off := 2) (v := u2) (cs' := #[u0, u1, u2, v3]) rfl).set (off := 3) (v := u3) (cs' := #[u0, u1, u2, u3]) rfl
set_option maxHeartbeats 4000000 in
theorem one_any (x : Rec) (Ak Ad : Option Addr) (ck cd : Nat) (S : SL W F w) (hk : CardAt w Ak x.key ck) (hd : CardAt w Ad x.data cd) (hl : x.key.length ≤ 140737488355328 ∧ x.data.length ≤ 140737488355328) :
    Calls Tryz.prog 135 #[.agg #[.int .i64 x.r, .slice Ak x.key.length ck, .slice Ad x.data.length cd, .bool x.bad]] w (RetO W F x) := by
  have HS := Lib.hid S
  have HK := Lib.hid hk.1
  have HD := Lib.hid hd.1
  obtain ⟨hl1, hl2⟩ := hl
  clear S hk hd
  obtain ⟨r, k, d, b⟩ := x
  dsimp only at *
  have H1 := Lib.hid (show SL w (rowS 5 1 (.slice (some ⟨w.heap.size + 1 + 1, 0, none⟩) 0 0) 0 [] :: cel (w.heap.size + 1) #[.int .i64 0, .slice none 0 0, .slice none 0 0, .bool false] 188 :: cel w.heap.size #[.int .i64 r, .slice Ak k.length ck, .slice Ad d.length cd, .bool b] 188 :: [])
      (((w.alloc (.cells #[.int .i64 r, .slice Ak k.length ck, .slice Ad d.length cd, .bool b] 188)).alloc (.cells #[.int .i64 0, .slice none 0 0, .slice none 0 0, .bool false] 188)).alloc (.cells #[] 5)) from by
    have h := (((SL.start w).allocC #[.int .i64 r, .slice Ak k.length ck, .slice Ad d.length cd, .bool b] 188).allocC #[.int .i64 0, .slice none 0 0, .slice none 0 0, .bool false] 188).lit #[] 5 1 0 rfl (by decide)
    simpa only [World.size_alloc] using h)
  go_enter Tryz.func135, Tryz.ntmps135
  go_wp2_with (first
    | (at_builtin; refine wpList_appS rfl _ _ _ rfl bElem _ 0 [] rfl H1.out w.heap.size Ak k.length ck (Lib.byteCells k) rfl (HK.out.below H1.out.1) (by rw [byteCells_len, Nat.mul_one]) (byteCells_one _) (by unfold maxLen; omega) (by omega) ?_
       intro A2 c2 w2 S2
       rw [Nat.zero_add, List.nil_append] at S2
       rw [Nat.zero_add]
       have H2 := Lib.hid S2
       clear S2 H1
       obtain ⟨L2, K2, z2⟩ := H2.out.s1.look
       obtain ⟨L1, K1, z1⟩ := H2.out.s2.look
       have hne := H2.out.s2.s2.cne
       generalize w.heap.size + 1 = b2 at *
       have HB := Lib.hid (rfl : w.heap.size = w.heap.size)
       generalize hb1 : w.heap.size = b1 at *
       have H3 := Lib.hid (show SL w (rowS 5 1 (.slice (some ⟨w2.heap.size, 0, none⟩) 0 0) 0 [] :: cel b1 #[.int .i64 r, .slice A2 k.length c2, .slice Ad d.length cd, .bool b] 188 :: rowS 5 1 (.slice A2 k.length c2) k.length (Lib.byteCells k) :: cel b2 #[.int .i64 0, .slice none 0 0, .slice none 0 0, .bool false] 188 :: [])
         ((w2.setCell ⟨b1, 1, none⟩ (.slice A2 k.length c2)).alloc (.cells #[] 5)) from by
         have h := (H2.out.s2.set (off := 1) (v := .slice A2 k.length c2) (cs' := #[.int .i64 r, .slice A2 k.length c2, .slice Ad d.length cd, .bool b]) rfl).lit #[] 5 1 0 rfl (by decide)
         simpa only [World.size_setCell] using h))
    | (at_builtin; refine wpList_appS rfl _ _ _ rfl bElem _ 0 [] rfl H3.out b1 Ad d.length cd (Lib.byteCells d) rfl (HD.out.below (hb1 ▸ H3.out.1)) (by rw [byteCells_len, Nat.mul_one]) (byteCells_one _) (by unfold maxLen; omega) (by omega) ?_
       intro A4 c4 w4 S4
       rw [Nat.zero_add, List.nil_append] at S4
       rw [Nat.zero_add]
       have H4 := Lib.hid S4
       clear S4 H3 H2 L1 K1 z1 L2 K2 z2
       obtain ⟨L1, K1, z1⟩ := H4.out.s1.look
       obtain ⟨L2, K2, z2⟩ := H4.out.s3.look))
  have HE := Lib.hid (((H4.out.s1.set (off := 2) (v := .slice A4 d.length c4) (cs' := #[.int .i64 r, .slice A2 k.length c2, .slice A4 d.length c4, .bool b]) rfl).s3).set4 (u0 := .int .i64 r) (u1 := .slice A2 k.length c2) (u2 := .slice A4 d.length c4) (u3 := .bool b))
  obtain ⟨L, _, _⟩ := HE.out.look
  exact bodyPost_ret (v := .agg #[.int .i64 r, .slice A2 k.length c2, .slice A4 d.length c4, .bool b]) (by simp [results, Tryz.results135, go_sem, L]) rfl ⟨_, _, rfl, HS.out.join HE.out.drop.drop.s1⟩
set_option maxHeartbeats 4000000 in
theorem clone_any (x : Rec) (Ak Ad : Option Addr) (ck cd : Nat) (S : SL W F w) (hk : CardAt w Ak x.key ck) (hd : CardAt w Ad x.data cd) (hl : x.key.length ≤ 140737488355328 ∧ x.data.length ≤ 140737488355328) :
    Calls Tryz.prog 260 #[.agg #[.int .i64 x.r, .slice Ak x.key.length ck, .slice Ad x.data.length cd, .bool x.bad]] w (RetO W F x) := by
  have HS := Lib.hid S
  have HK := Lib.hid hk.1
  have HD := Lib.hid hd.1
  obtain ⟨hl1, hl2⟩ := hl
  clear S hk hd
  obtain ⟨r, k, d, b⟩ := x
  dsimp only at *
  go_enter Tryz.func260, Tryz.ntmps260
  go_upto_region 1 with fail
  refine name_world (P := Code.wp _ _ _ _) ?_
  intro wd hwd
  have H1 := Lib.hid (show SL w (cel (w.heap.size + 1) #[.int .i64 0, .slice none 0 0, .slice none 0 0, .bool false] 188 :: cel w.heap.size #[.int .i64 r, .slice Ak k.length ck, .slice Ad d.length cd, .bool b] 188 :: []) wd from by
    rw [hwd]
    have h := ((SL.start w).allocC #[.int .i64 r, .slice Ak k.length ck, .slice Ad d.length cd, .bool b] 188).allocC #[.int .i64 0, .slice none 0 0, .slice none 0 0, .bool false] 188
    simpa only [World.size_alloc] using h)
  clear hwd
  generalize w.heap.size + 1 = b2 at *
  generalize hb1 : w.heap.size = b1 at *
  refine wp_region_order5 (SL w (cel b2 #[.int .i64 0, .slice none 0 0, .slice none 0 0, .bool false] 188 :: cel b1 #[.int .i64 r, .slice Ak k.length ck, .slice Ad d.length cd, .bool b] 188 :: [])) [0, 3] [1, 4] [2] [6] [5] [7, 8, 9] (by kernel_rfl) (by kernel_rfl) H1.out.drew (by intro c a d v w h; cases d <;> exact h) ?_
  simp only [pick, List.filterMap_cons, List.filterMap_nil, List.getElem?_cons_zero, List.getElem?_cons_succ]
  (repeat (refine wpPure_step (fun K hK => ?_); go_simp; refine hK _ ?_; clear hK K)); refine wpPure_nil ?_
  (repeat (with_reducible refine wpLoads_step ?_; intro K hK; go_simp; first | (with_reducible refine hK _ ?_; clear hK K) | (rw [if_neg (by decide)]; with_reducible refine hK _ ?_; clear hK K) | (refine ⟨_, fun wx hx => (by obtain ⟨f0, f1, f2⟩ := hx.s1.look; go_simp; with_reducible rfl), hK _ ?_⟩; clear hK K) | (refine ⟨_, fun _ _ => rfl, hK _ ?_⟩; clear hK K))); with_reducible refine wpLoads_nil ?_
  have H2 := Lib.hid H1.out.drew
  clear H1
  (with_reducible refine wpKeep_step ?_; intro K hK; go_simp)
  refine (bclone_any Ak k ck H2.out ((HK.out.below (hb1 ▸ H2.out.1)).mono (hb1 ▸ H2.out.1.size)) hl1).mono ?_
  rintro e w3 ⟨vk, rfl, S3⟩
  have H3 := Lib.hid S3
  refine hK _ _ S3.drop ?_
  clear hK K S3 H2
  refine wpKeep_nil ⟨H3.out.drop, ?_⟩
  (repeat (with_reducible refine wpLoads_step ?_; intro K hK; go_simp; first | (with_reducible refine hK _ ?_; clear hK K) | (rw [if_neg (by decide)]; with_reducible refine hK _ ?_; clear hK K) | (refine ⟨_, fun wx hx => (by skip; go_simp; with_reducible rfl), hK _ ?_⟩; clear hK K) | (refine ⟨_, fun _ _ => rfl, hK _ ?_⟩; clear hK K))); with_reducible refine wpLoads_nil ?_
  (with_reducible refine wpKeep_step ?_; intro K hK; go_simp)
  refine (bclone_any Ad d cd H3.out ((HD.out.below (hb1 ▸ H3.out.1)).mono (hb1 ▸ H3.out.1.size)) hl2).mono ?_
  rintro e w4 ⟨vd, rfl, S4⟩
  have H4 := Lib.hid S4
  refine hK _ _ S4.drop.drop ?_
  clear hK K S4 H3
  refine wpKeep_nil ?_
  obtain ⟨A4, c4, e4, _, _⟩ := own_slice H4.out.own
  obtain ⟨A3, c3, e3, _, _⟩ := own_slice H4.out.s1.own
  subst e4; subst e3
  obtain ⟨L1, K1, z1⟩ := H4.out.s3.look
  obtain ⟨L2, K2, z2⟩ := H4.out.s2.look
  have hne := H4.out.s3.s3.cne
  go_wp2
  have HE := Lib.hid ((((H4.out.s3.set (off := 1) (v := .slice A3 k.length c3) (cs' := #[.int .i64 r, .slice A3 k.length c3, .slice Ad d.length cd, .bool b]) rfl).set (off := 2) (v := .slice A4 d.length c4) (cs' := #[.int .i64 r, .slice A3 k.length c3, .slice A4 d.length c4, .bool b]) rfl).s3).set4 (u0 := .int .i64 r) (u1 := .slice A3 k.length c3) (u2 := .slice A4 d.length c4) (u3 := .bool b))
  obtain ⟨L, _, _⟩ := HE.out.look
  exact bodyPost_ret (v := .agg #[.int .i64 r, .slice A3 k.length c3, .slice A4 d.length c4, .bool b]) (by simp [results, Tryz.results260, go_sem, L]) rfl ⟨_, _, rfl, HS.out.join HE.out.drop.drop.s1⟩
end
end Go.Proofs.YtfhpaehfihnjaaaGreat.D
namespace Go.Proofs.YtfhpaehfihnjaaaGreat.D
open Go.RowKit
def RecV (w : World) (p : RV) : Prop := ∃ Ak ck Ad cd, p.1 = (.slice Ak p.2.key.length ck, .slice Ad p.2.data.length cd) ∧ CardAt w Ak p.2.key ck ∧ CardAt w Ad p.2.data cd
theorem RecV.grow {w w' : World} {p : RV} (h : RecV w p) (hb : Below w.heap.size w w') : RecV w' p := by
  obtain ⟨Ak, ck, Ad, cd, e, h1, h2⟩ := h
  exact ⟨Ak, ck, Ad, cd, e, h1.grow hb, h2.grow hb⟩
section
variable {W w : World} {F : List SA}
theorem recs_at' {A : Option Addr} {n c : Nat} {ps : List RV} (S : SL W (rowS 188 4 (.slice A n c) n (ps.flatMap recCells) :: F) w) (hv : ∀ p ∈ ps, RecV w p) : RecsAt w A (ps.map Prod.snd) := fun i x hx => by
  rw [List.getElem?_map] at hx
  cases hp : ps[i]? with
  | none => rw [hp] at hx; cases hx
  | some p =>
    rw [hp] at hx; injection hx with hx; subst hx
    have hc := fun k (hk : k < 4) => recCells_get ps i k p hp hk
    obtain ⟨g, hA, _, c0⟩ := S.cellAt (j := i * 4 + 0) (u := .int .i64 p.2.r) (by rw [hc 0 (by omega)]; rfl)
    obtain ⟨g1, hA1, _, c1⟩ := S.cellAt (j := i * 4 + 1) (u := p.1.1) (by rw [hc 1 (by omega)]; rfl)
    obtain ⟨g2, hA2, _, c2⟩ := S.cellAt (j := i * 4 + 2) (u := p.1.2) (by rw [hc 2 (by omega)]; rfl)
    obtain ⟨g3, hA3, _, c3⟩ := S.cellAt (j := i * 4 + 3) (u := .bool p.2.bad) (by rw [hc 3 (by omega)]; rfl)
    rw [hA] at hA1 hA2 hA3
    injection hA1 with hA1; injection hA1 with hA1; subst hA1
    injection hA2 with hA2; injection hA2 with hA2; subst hA2
    injection hA3 with hA3; injection hA3 with hA3; subst hA3
    obtain ⟨Ak, ck, Ad, cd, e, h1, h2⟩ := hv p (List.mem_iff_getElem?.2 ⟨i, hp⟩)
    rw [e] at c1 c2
    have e0 : ∀ k, (0 : Nat) + i * 4 + k = i * 4 + k := fun k => by omega
    exact ⟨g, 0, Ak, ck, Ad, cd, hA, by rw [show (0 : Nat) + i * 4 = i * 4 + 0 by omega]; exact c0, by rw [e0]; exact c1, by rw [e0]; exact c2, by rw [e0]; exact c3, h1, h2⟩
theorem recO_v {ps : List RV} (S : SL W (star (ps.map recO) :: F) w) : ∀ p ∈ ps, RecV w p := fun p hp => by
  obtain ⟨i, hi⟩ := List.mem_iff_getElem?.1 hp
  have ho := SL.take S (i := i) (P := recO p) (by rw [List.getElem?_map, hi]; rfl)
  have S2 := ho.spill
  simp only [List.cons_append, List.nil_append] at S2
  obtain ⟨Ak, ck, e1, _, _⟩ := own_slice S2.own
  obtain ⟨Ad, cd, e2, _, _⟩ := own_slice S2.s1.own
  have S3 := S2
  rw [e1] at S3
  have S4 := S2.s1
  rw [e2] at S4
  exact ⟨Ak, ck, Ad, cd, Prod.ext e1 e2, rowS_card S3, rowS_card S4⟩
theorem recO_snoc {v vk vd : Value} {x : Rec} {n : Nat} {xs : List Value} {ps : List RV} (S : SL W (rowS 188 4 v n xs :: rowS 5 1 vk x.key.length (Lib.byteCells x.key) :: rowS 5 1 vd x.data.length (Lib.byteCells x.data) :: star (ps.map recO) :: F) w) :
    SL W (rowS 188 4 v n xs :: star ((ps ++ [((vk, vd), x)]).map recO) :: F) w := by
  have h := SL.app (L := [rowS 5 1 vk x.key.length (Lib.byteCells x.key), rowS 5 1 vd x.data.length (Lib.byteCells x.data)]) S.b3
  have h2 := SL.snoc (P := recO ((vk, vd), x)) h
  simp only [List.map_append, List.map_cons, List.map_nil]
  exact h2.s1
theorem flat_snoc (ps : List RV) (p : RV) : (ps ++ [p]).flatMap recCells = ps.flatMap recCells ++ recCells p := by simp
set_option maxHeartbeats 4000000 in
theorem rcopy_any (A : Option Addr) (rs : List Rec) (c : Nat) (S : SL W F w) (hr : RecsRd W F A rs) (hf : Fit rs) :
    Calls Tryz.prog 111 #[.slice A rs.length c] w fun e w' => ∃ A' c', e = .returned (.slice A' rs.length c') ∧ SL W (recsS (.slice A' rs.length c') rs :: F) w' := by
  have HR := Lib.hid hr
  have HF := Lib.hid hf
  have HS := Lib.hid S
  have hfl := hf.1
  clear S hr hf
  go_enter Tryz.func111, Tryz.ntmps111
  go_wp2
  go_loopw [3, 4] (fun o i wr => ∃ (k : Nat) (A3 : Option Addr) (c3 : Nat) (ps : List RV), k ≤ rs.length ∧ i = .int .i64 k ∧ o = .slice A3 k c3 ∧ ps.length = k ∧ ps.map Prod.snd = rs.take k ∧
    SL W (rowS 188 4 (.slice A3 k c3) k (ps.flatMap recCells) :: star (ps.map recO) :: F) wr) (fun _ i _ => rs.length - (intOf i).toNat)
  case atStart => exact ⟨0, none, 0, [], Nat.zero_le _, rfl, rfl, rfl, rfl, HS.out.empty.nil _ _⟩
  case round =>
    obtain ⟨k, A3, c3, ps, hk, rfl, rfl, hp1, hp2, S1⟩ := hrel
    have H1 := Lib.hid S1
    have HP := Lib.hid (And.intro hp1 hp2)
    clear S1 HS hp1 hp2
    by_cases hlt : k < rs.length
    · have hb : rs[k]? = some rs[k] := by simp [hlt]
      have hbl := HF.out.2 rs[k] (List.getElem_mem hlt)
      generalize rs[k] = x at hb hbl
      obtain ⟨g, off, Ak, ck, Ad, cd, hA, k0, k1, k2, k3, a1, a2⟩ := HR.out wr H1.out.drop.drop k x hb
      subst hA
      have HB := Lib.hid hb
      have HA := Lib.hid (And.intro a1 a2)
      clear hb a1 a2
      go_wp2_with fail
      refine (one_any x Ak Ad ck cd H1.out HA.out.1 HA.out.2 hbl).mono ?_
      rintro e w2 ⟨vk, vd, rfl, S2⟩
      have H2 := Lib.hid S2
      clear S2 H1 k0 k1 k2 k3 HA
      go_wp2_with (at_builtin; refine wpList_pushS rfl _ _ _ rfl recElem w2 [.int .i64 x.r, vk, vd, .bool x.bad] 1 rfl rfl (by
                     obtain ⟨_, _, e1, _, _⟩ := own_slice H2.out.own
                     obtain ⟨_, _, e2, _, _⟩ := own_slice H2.out.s1.own
                     rw [e1, e2]
                     simp [Value.oneCell']) _ k _ rfl rfl H2.out.s2 (by unfold maxLen; omega) (by omega) ?_
                   intro A6 c6 w6 S6
                   have H6 := Lib.hid S6
                   clear S6 H2)
      go_roundw
      case rel =>
        refine ⟨k + 1, A6, c6, ps ++ [((vk, vd), x)], by omega, by go_num, rfl, by simp [HP.out.1], by rw [List.take_add_one, HB.out]; simp [HP.out.2], ?_⟩
        rw [flat_snoc]
        exact recO_snoc H6.out
      case measure => simp [intOf]; omega
    · obtain rfl : k = rs.length := by omega
      go_wp2
      go_ret
      exact ⟨_, _, rfl, recsS_close' HP.out.1 (by rw [HP.out.2]; simp) H1.out⟩
end
theorem okAt_app {rs : List Rec} {x : Rec} {j : Nat} (hj : j < rs.length) : okAt (rs ++ [x]) j = okAt rs j := by
  unfold okAt
  rw [List.getElem?_append_left hj]
  cases rs[j]? with
  | none => rfl
  | some y =>
    cases j with
    | zero => rfl
    | succ i => simp only; rw [List.getElem?_append_left (by omega)]
theorem okAt_end {rs : List Rec} {x : Rec} : okAt (rs ++ [x]) rs.length = (x.valid && (match rs.getLast? with | none => true | some y => decide (y.r < x.r))) := by
  have hx : (rs ++ [x])[rs.length]? = some x := by simp
  rcases Nat.eq_zero_or_pos rs.length with h | h
  · obtain rfl := List.eq_nil_of_length_eq_zero h
    simp [okAt]
  · obtain ⟨j, hj⟩ : ∃ j, rs.length = j + 1 := ⟨rs.length - 1, by omega⟩
    have hjl : rs[j]? = some rs[j] := by simp
    have hy : (rs ++ [x])[j]? = some rs[j] := by rw [List.getElem?_append_left (by omega)]; exact hjl
    have hlast : rs.getLast? = some rs[j] := by
      rw [List.getLast?_eq_getElem?]
      have : rs.length - 1 = j := by omega
      rw [this]; exact hjl
    generalize rs[j] = y at *
    rw [hlast]
    rw [hj] at hx ⊢
    rw [okAt_succ hx hy]
theorem validB_iff {rs : List Rec} : validB rs = true ↔ (∀ j, j < rs.length → okAt rs j = true) ∧ usedN rs ≤ 2048 := by
  unfold validB ordB
  rw [Bool.and_eq_true, List.all_eq_true, decide_eq_true_iff]
  constructor
  · rintro ⟨h1, h2⟩; exact ⟨fun j hj => h1 j (List.mem_range.2 hj), h2⟩
  · rintro ⟨h1, h2⟩; exact ⟨fun j hj => h1 j (List.mem_range.1 hj), h2⟩
theorem fits_eq (rs : List Rec) (x : Rec) : validB (rs ++ [x]) = (validB rs && x.valid && (match rs.getLast? with | none => true | some y => decide (y.r < x.r)) && decide (usedN rs + x.cost ≤ 2048)) := by
  have hu : usedN (rs ++ [x]) = usedN rs + x.cost := by rw [usedN_app]; simp [usedN]
  rw [Bool.eq_iff_iff]
  simp only [Bool.and_eq_true, validB_iff, decide_eq_true_iff, hu]
  have he := okAt_end (rs := rs) (x := x)
  constructor
  · rintro ⟨h1, h2⟩
    have hl := h1 rs.length (by simp)
    rw [he, Bool.and_eq_true] at hl
    exact ⟨⟨⟨⟨fun j hj => by rw [← okAt_app (x := x) hj]; exact h1 j (by simp; omega), by omega⟩, hl.1⟩, hl.2⟩, h2⟩
  · rintro ⟨⟨⟨⟨h1, _⟩, h3⟩, h4⟩, h5⟩
    refine ⟨fun j hj => ?_, h5⟩
    rw [List.length_append, List.length_singleton] at hj
    rcases Nat.lt_succ_iff_lt_or_eq.1 hj with h | rfl
    · rw [okAt_app h]; exact h1 j h
    · rw [he, Bool.and_eq_true]; exact ⟨h3, h4⟩
end Go.Proofs.YtfhpaehfihnjaaaGreat.D
namespace Go.Proofs.YtfhpaehfihnjaaaGreat.D
open Go.RowKit
section
variable {W w : World} {F : List SA}
theorem Fit.left {rs : List Rec} {x : Rec} (h : Fit (rs ++ [x])) : Fit rs := ⟨by have := h.1; simp at this; omega, fun y hy => h.2 y (by simp [hy])⟩
theorem recs_push {A A' : Option Addr} {c' : Nat} {rs : List Rec} {x : Rec} {ps : List RV} {Ak Ad : Option Addr} {ck cd : Nat} (S : SL W (rowS 188 4 (.slice A' (rs.length + 1) c') (rs.length + 1) (ps.flatMap recCells ++ [.int .i64 x.r, .slice Ak x.key.length ck, .slice Ad x.data.length cd, .bool x.bad]) :: F) w)
    (hp : ps.map Prod.snd = rs) (hv : ∀ p ∈ ps, RecV w p) (hk : CardAt w Ak x.key ck) (hd : CardAt w Ad x.data cd) : RecsAt w A' (rs ++ [x]) := by
  have h := recs_at' (ps := ps ++ [((.slice Ak x.key.length ck, .slice Ad x.data.length cd), x)]) (by rw [flat_snoc]; exact S) (fun p hp => by
    rcases List.mem_append.1 hp with h | h
    · exact hv p h
    · obtain rfl := List.mem_singleton.1 h
      exact ⟨Ak, ck, Ad, cd, rfl, hk, hd⟩)
  rw [List.map_append, hp] at h
  exact h
end
end Go.Proofs.YtfhpaehfihnjaaaGreat.D
namespace Go.Proofs.YtfhpaehfihnjaaaGreat.D
open Go.RowKit
def cutR (nk nd : Nat) (x : Rec) : Rec := { x with key := x.key.take nk, data := x.data.take nd }
def fewL (l : List Rec) : List Rec := (l.take 40).map (cutR 300 2100)
theorem byteCells_take (l : List UInt8) (n : Nat) : Lib.byteCells (l.take n) = (Lib.byteCells l).take n := by simp [Lib.byteCells]
theorem CardAt.take {w : World} {a : Option Addr} {l : List UInt8} {c : Nat} (h : CardAt w a l c) (n : Nat) : CardAt w a (l.take n) c := by
  refine ⟨fun hne => ?_, by have := h.2.1; rw [List.length_take]; omega, h.2.2⟩
  rw [byteCells_take] at hne ⊢
  have h0 : Lib.byteCells l ≠ [] := fun e => hne (by rw [e]; simp)
  obtain ⟨b, off, e, hb, hc⟩ := h.1 h0
  refine ⟨b, off, e, hb, fun j u hu => hc j u ?_⟩
  rw [List.getElem?_take] at hu
  split at hu
  · exact hu
  · cases hu
def RecsB (W : World) (F : List SA) (A : Option Addr) (rs : List Rec) : Prop := ∀ w, SL W F w → ∀ i x, rs[i]? = some x → ∃ g off Ak ck Ad cd, A = some ⟨g, off, none⟩ ∧
  w.cell? ⟨g, off + i * 4, none⟩ = some (.int .i64 x.r) ∧ w.cell? ⟨g, off + i * 4 + 1, none⟩ = some (.slice Ak x.key.length ck) ∧ w.cell? ⟨g, off + i * 4 + 2, none⟩ = some (.slice Ad x.data.length cd) ∧ w.cell? ⟨g, off + i * 4 + 3, none⟩ = some (.bool x.bad) ∧
  CardAt W Ak x.key ck ∧ CardAt W Ad x.data cd
theorem RecsB.base {W : World} {A : Option Addr} {rs : List Rec} (h : RecsAt W A rs) (F : List SA) : RecsB W F A rs := fun w S i x hx => by
  obtain ⟨g, off, Ak, ck, Ad, cd, hA, k0, k1, k2, k3, a1, a2⟩ := h i x hx
  have z := World.block_lt_of_cell? W _ k0
  exact ⟨g, off, Ak, ck, Ad, cd, hA, (S.1.cell (p := ⟨g, off + i * 4, none⟩) z).trans k0, (S.1.cell (p := ⟨g, off + i * 4 + 1, none⟩) z).trans k1, (S.1.cell (p := ⟨g, off + i * 4 + 2, none⟩) z).trans k2, (S.1.cell (p := ⟨g, off + i * 4 + 3, none⟩) z).trans k3, a1, a2⟩
section
variable {W w : World} {F : List SA}
theorem fewL_snoc {l : List Rec} {k : Nat} {x : Rec} (h : l[k]? = some x) : (l.take (k + 1)).map (cutR 300 2100) = (l.take k).map (cutR 300 2100) ++ [cutR 300 2100 x] := by
  rw [List.take_add_one, h]; simp
end
end Go.Proofs.YtfhpaehfihnjaaaGreat.D
namespace Go.Proofs.YtfhpaehfihnjaaaGreat.D
open Go.RowKit
def trackR (last : Int) (x : Rec) : Rec := ⟨last + 1 + x.r % 8, x.key.take 255, x.data.take 2016, x.bad⟩
def trackStep (s : List Rec × Int) (x : Rec) : List Rec × Int := if validB (s.1 ++ [trackR s.2 x]) then (s.1 ++ [trackR s.2 x], (trackR s.2 x).r) else s
def trackS (l : List Rec) : List Rec × Int := l.foldl trackStep ([], 0)
def trackL (l : List Rec) : List Rec := (trackS (l.take 40)).1
theorem trackS_snoc {l : List Rec} {k : Nat} {x : Rec} (h : l[k]? = some x) : trackS (l.take (k + 1)) = trackStep (trackS (l.take k)) x := by
  rw [List.take_add_one, h]; simp [trackS]
structure TrackOk (s : List Rec × Int) (k : Nat) : Prop where
  len : s.1.length ≤ k
  low : 0 ≤ s.2
  high : s.2 ≤ 8 * k
  valid : validB s.1 = true
  size : ∀ x ∈ s.1, x.key.length ≤ 255 ∧ x.data.length ≤ 2016
theorem trackOk_step {s : List Rec × Int} {k : Nat} (h : TrackOk s k) (x : Rec) : TrackOk (trackStep s x) (k + 1) := by
  unfold trackStep
  split
  · rename_i hv
    refine ⟨by have := h.len; simp; omega, ?_, ?_, hv, fun y hy => ?_⟩
    · have := h.low; simp only [trackR]; omega
    · have := h.high; simp only [trackR]; push_cast; omega
    · rcases List.mem_append.1 hy with h1 | h1
      · exact h.size y h1
      · obtain rfl := List.mem_singleton.1 h1
        simp only [trackR, List.length_take]
        omega
  · exact ⟨by have := h.len; omega, h.low, by have := h.high; push_cast; omega, h.valid, h.size⟩
theorem trackOk (l : List Rec) : ∀ k, k ≤ l.length → TrackOk (trackS (l.take k)) k
  | 0, _ => ⟨by simp [trackS], by simp [trackS], by simp [trackS], by rfl, by simp [trackS]⟩
  | k + 1, h => by
    rw [trackS_snoc (x := l[k]) (by simp)]
    exact trackOk_step (trackOk l k (by omega)) _
theorem numR (z last : Int) (h0 : 0 ≤ last) (h1 : last ≤ 1000) : wrap64 (last + 1 + wrap64 ((IntKind.u64.wrap z).tmod 8)) = last + 1 + z % 8 := by
  have h2 : (IntKind.u64.wrap z).tmod 8 = z % 8 := by
    have h3 : IntKind.u64.wrap z = z % 18446744073709551616 := by unfold IntKind.wrap; simp [IntKind.signed, IntKind.bits]
    rw [h3, Int.tmod_eq_emod_of_nonneg (by omega)]
    omega
  rw [h2]
  unfold wrap64
  omega
section
variable {W w : World} {F : List SA}
end
end Go.Proofs.YtfhpaehfihnjaaaGreat.D
namespace Go.Proofs.YtfhpaehfihnjaaaGreat.D
open Go.RowKit
theorem bytes_beq (a b : List UInt8) : ((⟨a.toArray⟩ : ByteArray).toList == (⟨b.toArray⟩ : ByteArray).toList) = decide (a = b) := by
  rw [ByteArray.toList_eq, ByteArray.toList_eq, Bool.eq_iff_iff]
  simp
def matchE (key : List UInt8) (x : Rec) : Bool := !x.bad && decide (x.key = key)
def matchH (key : List UInt8) (x : Rec) : Bool := !x.bad && (decide (x.key.length = key.length) && decide (0 ≤ Lib.compareBytes x.key key))
section
theorem equal_any (A A2 : Option Addr) (k l : List UInt8) (c c2 : Nat) (w : World) (h1 : CardAt w A k c) (h2 : CardAt w A2 l c2) :
    Calls Tryz.prog 269 #[.slice A k.length c, .slice A2 l.length c2] w fun e w' => e = .returned (.bool (decide (k = l))) ∧ Below w.heap.size w w' := by
  have HC1 := run_string_of_at (P := Tryz.prog) (w := w) 50 9 5 Tryz.underlying50 Tryz.underlying5 Tryz.underlying9 k c h1.1
  have HC2 := run_string_of_at (P := Tryz.prog) (w := w) 50 9 5 Tryz.underlying50 Tryz.underlying5 Tryz.underlying9 l c2 h2.1
  have hb := bytes_beq k l
  clear h1 h2
  generalize (⟨k.toArray⟩ : ByteArray) = sk at *
  generalize (⟨l.toArray⟩ : ByteArray) = sl at *
  generalize decide (k = l) = q at *
  go_enter Tryz.func269, Tryz.ntmps269
  go_wp2
  go_ret
  exact ⟨hb ▸ rfl, by (repeat' (first | (with_reducible exact Below.refl _ _) | (with_reducible assumption) | (with_reducible refine below_drewN ?_ _) | (with_reducible refine Below.drew ?_) | (with_reducible refine Below.alloc ?_ ?_ _) | (with_reducible refine Below.setCell ?_ ?_ _) | (with_reducible refine below_row ?_ ?_ _) | (with_reducible exact Nat.le_refl _) | omega | (simp only [World.size_alloc, World.size_setCell, World.size_drew, World.size_drewN]; omega) | (simp; done) | (simp; omega)))⟩
theorem run_bytesOf {P : Program} {w : World} {B : Nat} {A : Option Addr} {l : List UInt8} {c : Nat} (h : At w B A (Lib.byteCells l)) : (Extern.Bytes.bytesOf (.slice A l.length c)).run P w = .ok ⟨l.toArray⟩ w := by
  cases A with
  | none =>
    have : l = [] := by
      rcases l with _ | ⟨x, l⟩
      · rfl
      · obtain ⟨b, off, h, _⟩ := h (by simp [Lib.byteCells])
        cases h
    subst this
    rfl
  | some a =>
    have hc : ∀ j x, (l.map fun b => (b.toNat : Int))[j]? = some x → w.cell? (a.add j) = some (.int .u8 x) := fun j x hj => by
      have hne : Lib.byteCells l ≠ [] := fun e => by
        have hl : l = [] := by simpa [Lib.byteCells] using e
        subst hl; simp at hj
      obtain ⟨b, off, e, _, hcc⟩ := h hne
      injection e with e
      subst e
      rw [add_none]
      refine hcc j _ ?_
      rw [List.getElem?_map] at hj
      rw [Lib.byteCells, List.getElem?_map]
      cases hh : l[j]? with
      | none => rw [hh] at hj; cases hj
      | some y => rw [hh] at hj; injection hj with hj; subst hj; rfl
    have hl := Lib.run_loadBytesX (P := P) w (l.map fun b => (b.toNat : Int)) a .empty hc
    rw [List.length_map] at hl
    show (Extern.Bytes.loadBytes a l.length .empty).run P w = _
    rw [hl]
    congr 1
    apply ByteArray.ext
    simp only [Lib.bytesOf, List.map_map]
    rw [show ((fun n : Int => n.toNat.toUInt8) ∘ fun b : UInt8 => (b.toNat : Int)) = id from funext fun b => by simp]
    simp
theorem compare_any (A A2 : Option Addr) (k l : List UInt8) (c c2 : Nat) (w : World) (h1 : CardAt w A k c) (h2 : CardAt w A2 l c2) :
    Calls Tryz.prog 270 #[.slice A k.length c, .slice A2 l.length c2] w fun e w' => e = .returned (.int .i64 (Lib.compareBytes k l)) ∧ w = w' := by
  have hrun : (Extern.BytealgCompare.compare #[.slice A k.length c, .slice A2 l.length c2]).run Tryz.prog w = .ok (.int .i64 (Lib.compareBytes k l)) w := by
    change Sem.run Tryz.prog (do pure (goInt (Extern.BytealgCompare.cmp (← Extern.Bytes.bytesOf (.slice A k.length c)) (← Extern.Bytes.bytesOf (.slice A2 l.length c2))))) w = _
    simp only [Sem.run_bind, Sem.run_pure, run_bytesOf h1.1, run_bytesOf h2.1, Result.andThen]
    rw [Lib.cmp_eq]
    rfl
  have HR := Lib.hid hrun
  clear hrun h1 h2
  go_enter Tryz.func270, Tryz.ntmps270
  go_wp2
  rw [run_callFunc_extern Tryz.func275 (by kernel_rfl) (by kernel_rfl) (by kernel_rfl) (e := Extern.BytealgCompare.compare) (by kernel_rfl), HR.out]
  simp only [Result.andThen]
  rw [Oper.upon_value]
  go_wp2
  go_ret
  exact ⟨rfl, rfl⟩
set_option maxHeartbeats 2000000 in
theorem wequal_any (x : Rec) (key : List UInt8) (A2 Ak Ad : Option Addr) (c2 ck cd : Nat) (w : World) (h1 : CardAt w A2 key c2) (h2 : CardAt w Ak x.key ck) :
    Calls Tryz.prog 262 #[.slice A2 key.length c2, .agg #[.int .i64 x.r, .slice Ak x.key.length ck, .slice Ad x.data.length cd, .bool x.bad]] w fun e w' => e = .returned (.bool (matchE key x)) ∧ Below w.heap.size w w' := by
  have HE := Lib.hid (fun (wx : World) (hx : Below w.heap.size w wx) => equal_any Ak A2 x.key key ck c2 wx (h2.grow hx) (h1.grow hx))
  clear h1 h2
  have hm : matchE key x = (!x.bad && decide (x.key = key)) := rfl
  generalize matchE key x = m at *
  generalize decide (x.key = key) = q at *
  obtain ⟨r, k, d, b⟩ := x
  dsimp only at *
  have BA := Lib.hid (show Below w.heap.size w (w.alloc (.cells #[.int .i64 r, .slice Ak k.length ck, .slice Ad d.length cd, .bool b] 188)) by (repeat' (first | (with_reducible exact Below.refl _ _) | (with_reducible assumption) | (with_reducible refine below_drewN ?_ _) | (with_reducible refine Below.drew ?_) | (with_reducible refine Below.alloc ?_ ?_ _) | (with_reducible refine Below.setCell ?_ ?_ _) | (with_reducible refine below_row ?_ ?_ _) | (with_reducible exact Nat.le_refl _) | omega | (simp only [World.size_alloc, World.size_setCell, World.size_drew, World.size_drewN]; omega) | (simp; done) | (simp; omega))))
  go_enter Tryz.func262, Tryz.ntmps262
  cases b
  · go_wp2_with fail
    refine (HE.out _ BA.out).mono ?_
    rintro e w2 ⟨rfl, b2⟩
    have B2 := Lib.hid (BA.out.trans (b2.mono BA.out.size))
    clear b2
    go_wp2
    go_ret
    exact ⟨by rw [hm]; simp, B2.out⟩
  · go_wp2
    go_ret
    exact ⟨by rw [hm]; rfl, BA.out⟩
set_option maxHeartbeats 2000000 in
theorem wreached_any (x : Rec) (key : List UInt8) (A2 Ak Ad : Option Addr) (c2 ck cd : Nat) (w : World) (h1 : CardAt w A2 key c2) (h2 : CardAt w Ak x.key ck) :
    Calls Tryz.prog 263 #[.slice A2 key.length c2, .agg #[.int .i64 x.r, .slice Ak x.key.length ck, .slice Ad x.data.length cd, .bool x.bad]] w fun e w' => e = .returned (.bool (matchH key x)) ∧ Below w.heap.size w w' := by
  have HE := Lib.hid (fun (wx : World) (hx : Below w.heap.size w wx) => compare_any Ak A2 x.key key ck c2 wx (h2.grow hx) (h1.grow hx))
  have hz1 : x.key.length ≤ 9223372036854775807 := by have := h2.2; unfold maxLen at this; omega
  have hz2 : key.length ≤ 9223372036854775807 := by have := h1.2; unfold maxLen at this; omega
  clear h1 h2
  have hm : matchH key x = (!x.bad && (decide (x.key.length = key.length) && decide (0 ≤ Lib.compareBytes x.key key))) := rfl
  generalize matchH key x = m at *
  generalize Lib.compareBytes x.key key = q at *
  obtain ⟨r, k, d, b⟩ := x
  dsimp only at *
  have BA := Lib.hid (show Below w.heap.size w (w.alloc (.cells #[.int .i64 r, .slice Ak k.length ck, .slice Ad d.length cd, .bool b] 188)) by (repeat' (first | (with_reducible exact Below.refl _ _) | (with_reducible assumption) | (with_reducible refine below_drewN ?_ _) | (with_reducible refine Below.drew ?_) | (with_reducible refine Below.alloc ?_ ?_ _) | (with_reducible refine Below.setCell ?_ ?_ _) | (with_reducible refine below_row ?_ ?_ _) | (with_reducible exact Nat.le_refl _) | omega | (simp only [World.size_alloc, World.size_setCell, World.size_drew, World.size_drewN]; omega) | (simp; done) | (simp; omega))))
  have HM := Lib.hid hm
  clear hm
  go_enter Tryz.func263, Tryz.ntmps263
  cases b
  · by_cases h : k.length = key.length
    · have hd : ((k.length : Int) == (key.length : Int)) = true := by simp; omega
      have hd' : decide (k.length = key.length) = true := by simp; omega
      have HH := Lib.hid h
      clear h
      generalize k.length = nk at *
      generalize key.length = nl at *
      go_wp2_with fail
      refine (HE.out _ BA.out).mono ?_
      rintro e w2 ⟨rfl, rfl⟩
      go_wp2
      go_ret
      exact ⟨by rw [HM.out, hd']; simp, BA.out⟩
    · have hd : ((k.length : Int) == (key.length : Int)) = false := by simp; omega
      have hd' : decide (k.length = key.length) = false := by simp; omega
      clear h
      go_wp2
      go_ret
      exact ⟨by rw [HM.out, hd']; simp, BA.out⟩
  · go_wp2
    go_ret
    exact ⟨by rw [HM.out]; rfl, BA.out⟩
end
end Go.Proofs.YtfhpaehfihnjaaaGreat.D
namespace Go.Proofs.YtfhpaehfihnjaaaGreat.D
open Go.RowKit
section
set_option maxHeartbeats 4000000 in
theorem indexE_any (A : Option Addr) (rs : List Rec) (c : Nat) (key : List UInt8) (A2 : Option Addr) (c2 : Nat) (w : World) (hr : RecsAt w A rs) (hl : rs.length ≤ maxLen) (hk : CardAt w A2 key c2) :
    Calls Tryz.prog 235 #[.slice A rs.length c, .func (.func 262) #[.slice A2 key.length c2] #[]] w fun e w' => e = .returned (.int .i64 (idxV (rs.findIdx? (matchE key)))) ∧ Below w.heap.size w w' := by
  have HR := Lib.hid hr
  have HN := Lib.hid hk
  have hfl : rs.length ≤ 9223372036854775807 := by unfold maxLen at hl; omega
  clear hr hk hl
  go_enter Tryz.func235, Tryz.ntmps235
  go_wp2
  go_loopw [8] (fun i wr => ∃ k : Nat, k ≤ rs.length ∧ i = .int .i64 k ∧ (∀ j y, j < k → rs[j]? = some y → matchE key y = false) ∧ Below w.heap.size w wr) (fun i _ => rs.length - (intOf i).toNat)
  case atStart => exact ⟨0, Nat.zero_le _, rfl, fun j y h => absurd h (by omega), Below.refl _ _⟩
  case round =>
    obtain ⟨k, hk, rfl, hok, b1⟩ := hrel
    have B1 := Lib.hid b1
    have HOK := Lib.hid hok
    clear b1 hok
    by_cases hlt : k < rs.length
    · have hx : rs[k]? = some rs[k] := by simp [hlt]
      generalize rs[k] = x at hx
      obtain ⟨g, off, Ak, ck, Ad, cd, hA, k0, k1, k2, k3, a1, _⟩ := HR.out.grow B1.out k x hx
      subst hA
      have HX := Lib.hid hx
      have HK := Lib.hid (wequal_any x key A2 Ak Ad c2 ck cd wr (HN.out.grow B1.out) a1)
      clear hx a1
      go_wp2_with fail
      refine HK.out.mono ?_
      rintro e w2 ⟨rfl, b2⟩
      have B2 := Lib.hid (B1.out.trans (b2.mono B1.out.size))
      clear b2 k0 k1 k2 k3 HK
      cases hp : matchE key x
      · have HP := Lib.hid hp
        clear hp
        go_wp2
        go_roundw
        case rel => exact ⟨k + 1, by omega, by go_num, fun j y hj hy => (by
          rcases Nat.lt_succ_iff_lt_or_eq.1 hj with h | rfl
          · exact HOK.out j y h hy
          · have hx := HX.out
            rw [hy] at hx; injection hx with hx; subst hx; exact HP.out), B2.out⟩
        case measure => simp [intOf]; omega
      · have HF := Lib.hid (show rs.findIdx? (matchE key) = some k from findIdx_some HX.out hp HOK.out)
        clear hp
        go_wp2
        go_ret
        exact ⟨by rw [HF.out]; rfl, B2.out⟩
    · obtain rfl : k = rs.length := by omega
      have HF := Lib.hid (show rs.findIdx? (matchE key) = none from findIdx_none HOK.out)
      go_wp2
      go_ret
      exact ⟨by rw [HF.out]; rfl, B1.out⟩
set_option maxHeartbeats 4000000 in
theorem indexH_any (A : Option Addr) (rs : List Rec) (c : Nat) (key : List UInt8) (A2 : Option Addr) (c2 : Nat) (w : World) (hr : RecsAt w A rs) (hl : rs.length ≤ maxLen) (hk : CardAt w A2 key c2) :
    Calls Tryz.prog 235 #[.slice A rs.length c, .func (.func 263) #[.slice A2 key.length c2] #[]] w fun e w' => e = .returned (.int .i64 (idxV (rs.findIdx? (matchH key)))) ∧ Below w.heap.size w w' := by
  have HR := Lib.hid hr
  have HN := Lib.hid hk
  have hfl : rs.length ≤ 9223372036854775807 := by unfold maxLen at hl; omega
  clear hr hk hl
  go_enter Tryz.func235, Tryz.ntmps235
  go_wp2
  go_loopw [8] (fun i wr => ∃ k : Nat, k ≤ rs.length ∧ i = .int .i64 k ∧ (∀ j y, j < k → rs[j]? = some y → matchH key y = false) ∧ Below w.heap.size w wr) (fun i _ => rs.length - (intOf i).toNat)
  case atStart => exact ⟨0, Nat.zero_le _, rfl, fun j y h => absurd h (by omega), Below.refl _ _⟩
  case round =>
    obtain ⟨k, hk, rfl, hok, b1⟩ := hrel
    have B1 := Lib.hid b1
    have HOK := Lib.hid hok
    clear b1 hok
    by_cases hlt : k < rs.length
    · have hx : rs[k]? = some rs[k] := by simp [hlt]
      generalize rs[k] = x at hx
      obtain ⟨g, off, Ak, ck, Ad, cd, hA, k0, k1, k2, k3, a1, _⟩ := HR.out.grow B1.out k x hx
      subst hA
      have HX := Lib.hid hx
      have HK := Lib.hid (wreached_any x key A2 Ak Ad c2 ck cd wr (HN.out.grow B1.out) a1)
      clear hx a1
      go_wp2_with fail
      refine HK.out.mono ?_
      rintro e w2 ⟨rfl, b2⟩
      have B2 := Lib.hid (B1.out.trans (b2.mono B1.out.size))
      clear b2 k0 k1 k2 k3 HK
      cases hp : matchH key x
      · have HP := Lib.hid hp
        clear hp
        go_wp2
        go_roundw
        case rel => exact ⟨k + 1, by omega, by go_num, fun j y hj hy => (by
          rcases Nat.lt_succ_iff_lt_or_eq.1 hj with h | rfl
          · exact HOK.out j y h hy
          · have hx := HX.out
            rw [hy] at hx; injection hx with hx; subst hx; exact HP.out), B2.out⟩
        case measure => simp [intOf]; omega
      · have HF := Lib.hid (show rs.findIdx? (matchH key) = some k from findIdx_some HX.out hp HOK.out)
        clear hp
        go_wp2
        go_ret
        exact ⟨by rw [HF.out]; rfl, B2.out⟩
    · obtain rfl : k = rs.length := by omega
      have HF := Lib.hid (show rs.findIdx? (matchH key) = none from findIdx_none HOK.out)
      go_wp2
      go_ret
      exact ⟨by rw [HF.out]; rfl, B1.out⟩
def searchN (rs : List Rec) (from_ : Int) (key : List UInt8) (high : Bool) : Option Nat :=
  if key.length = 0 ∨ (rs.length : Int) ≤ from_ then none else ((rs.drop from_.toNat).findIdx? (if high then matchH key else matchE key)).map (from_.toNat + ·)
theorem RecsAt.drop {w : World} {g off : Nat} {rs : List Rec} (h : RecsAt w (some ⟨g, off, none⟩) rs) (n : Nat) : RecsAt w (some ⟨g, off + n * 4, none⟩) (rs.drop n) := fun i x hx => by
  rw [List.getElem?_drop] at hx
  obtain ⟨g2, off2, Ak, ck, Ad, cd, hA, k0, k1, k2, k3, a1, a2⟩ := h (n + i) x hx
  injection hA with hA; injection hA with h1 h2
  subst h1; subst h2
  have e : off + (n + i) * 4 = off + n * 4 + i * 4 := by omega
  rw [e] at k0 k1 k2 k3
  exact ⟨g, off + n * 4, Ak, ck, Ad, cd, rfl, k0, k1, k2, k3, a1, a2⟩
set_option maxHeartbeats 2000000 in
theorem search_any (A : Option Addr) (rs : List Rec) (c : Nat) (fr : Int) (A2 : Option Addr) (key : List UInt8) (c2 : Nat) (high : Bool) (w : World) (hr : RecsAt w A rs) (hc : rs.length ≤ c) (hcm : c ≤ maxLen) (hk : CardAt w A2 key c2) :
    Calls Tryz.prog 252 #[.slice A rs.length c, .int .i64 fr, .slice A2 key.length c2, .bool high] w fun e w' => e = .returned (.tuple #[.int .i64 (((searchN rs fr key high).getD 0 : Nat) : Int), .bool (searchN rs fr key high).isSome]) ∧ Below w.heap.size w w' := by
  have hz1 : c ≤ 9223372036854775807 := by unfold maxLen at hcm; omega
  have hz2 : key.length ≤ 9223372036854775807 := by have := hk.2; unfold maxLen at this; omega
  have HR := Lib.hid hr
  have HK := Lib.hid hk
  have HS := Lib.hid (rfl : searchN rs fr key high = searchN rs fr key high)
  generalize hs : searchN rs fr key high = s at *
  clear hr hk HS
  by_cases h0 : key.length = 0
  · obtain rfl : s = none := by rw [← hs]; unfold searchN; rw [if_pos (Or.inl h0)]
    rw [h0]
    clear hs h0
    go_enter Tryz.func252, Tryz.ntmps252
    go_wp2
    go_ret2
    exact ⟨rfl, by (repeat' (first | (with_reducible exact Below.refl _ _) | (with_reducible assumption) | (with_reducible refine below_drewN ?_ _) | (with_reducible refine Below.drew ?_) | (with_reducible refine Below.alloc ?_ ?_ _) | (with_reducible refine Below.setCell ?_ ?_ _) | (with_reducible refine below_row ?_ ?_ _) | (with_reducible exact Nat.le_refl _) | omega | (simp only [World.size_alloc, World.size_setCell, World.size_drew, World.size_drewN]; omega) | (simp; done) | (simp; omega)))⟩
  · have t0 : ((key.length : Int) == 0) = false := by rw [beq_eq_false_iff_ne]; omega
    by_cases h1 : (rs.length : Int) ≤ fr
    · obtain rfl : s = none := by rw [← hs]; unfold searchN; rw [if_pos (Or.inr h1)]
      clear hs h0
      go_enter Tryz.func252, Tryz.ntmps252
      go_wp2
      go_ret2
      exact ⟨rfl, by (repeat' (first | (with_reducible exact Below.refl _ _) | (with_reducible assumption) | (with_reducible refine below_drewN ?_ _) | (with_reducible refine Below.drew ?_) | (with_reducible refine Below.alloc ?_ ?_ _) | (with_reducible refine Below.setCell ?_ ?_ _) | (with_reducible refine below_row ?_ ?_ _) | (with_reducible exact Nat.le_refl _) | omega | (simp only [World.size_alloc, World.size_setCell, World.size_drew, World.size_drewN]; omega) | (simp; done) | (simp; omega)))⟩
    · by_cases hr0 : rs.length = 0
      · obtain rfl := List.eq_nil_of_length_eq_zero hr0
        obtain rfl : s = none := by rw [← hs]; unfold searchN; rw [if_neg (by rintro (h | h) <;> omega)]; cases high <;> simp
        have hm : max fr 0 = 0 := by simp at h1; omega
        have h2 : ¬ ((0 : Int) ≤ fr) := h1
        have HE := Lib.hid (fun A' c' wx (hx : Below w.heap.size w wx) => indexE_any A' [] c' key A2 c2 wx RecsAt.nil (by simp) (HK.out.grow hx))
        have HH := Lib.hid (fun A' c' wx (hx : Below w.heap.size w wx) => indexH_any A' [] c' key A2 c2 wx RecsAt.nil (by simp) (HK.out.grow hx))
        clear hs h1 hr0 h0
        simp only [List.length_nil] at HE HH ⊢
        go_enter Tryz.func252, Tryz.ntmps252
        cases high <;> cases A
        all_goals
          go_wp2_with fail
          first
            | (with_reducible refine (HE.out _ _ _ (Below.refl _ _)).mono ?_)
            | (with_reducible refine (HH.out _ _ _ (Below.refl _ _)).mono ?_)
          rintro e w2 ⟨rfl, b2⟩
          have B2 := Lib.hid b2
          clear b2 HE HH
          simp only [List.findIdx?_nil, idxV]
          go_wp2
          go_ret2
          exact ⟨rfl, B2.out⟩
      by_cases hneg : fr ≤ 0
      · have hs2 : s = rs.findIdx? (if high then matchH key else matchE key) := by
          rw [← hs]; unfold searchN; rw [if_neg (by rintro (h | h) <;> omega)]
          have e : fr.toNat = 0 := by omega
          rw [e, List.drop_zero]
          cases rs.findIdx? (if high then matchH key else matchE key) <;> simp
        have HF := Lib.hid (fun (i : Nat) (h : rs.findIdx? (if high then matchH key else matchE key) = some i) => (by
          rw [List.findIdx?_eq_some_iff_getElem] at h
          exact h.1 : i < rs.length))
        have HS2 := Lib.hid hs2
        have HE := Lib.hid (indexE_any A rs c key A2 c2 w HR.out (by omega) HK.out)
        have HH := Lib.hid (indexH_any A rs c key A2 c2 w HR.out (by omega) HK.out)
        have hm : max fr 0 = 0 := by omega
        have h2 : ¬ ((rs.length : Int) ≤ fr) := h1
        clear hs hs2 h0 h1
        go_enter Tryz.func252, Tryz.ntmps252
        cases high
        all_goals
          simp only [Bool.false_eq_true, if_false, if_true] at HF HS2
          obtain hneg | rfl : fr < 0 ∨ fr = 0 := by omega
        all_goals
          cases A
        all_goals
          go_wp2_with fail
          first
            | ((with_reducible refine HE.out.mono ?_); rintro e w2 ⟨rfl, b2⟩; generalize List.findIdx? (matchE key) rs = f at *)
            | ((with_reducible refine HH.out.mono ?_); rintro e w2 ⟨rfl, b2⟩; generalize List.findIdx? (matchH key) rs = f at *)
          have B2 := Lib.hid b2
          clear b2 HE HH
          cases f with
          | none =>
            have HSN := Lib.hid (show s = none from HS2.out)
            simp only [idxV]
            go_wp2
            go_ret2
            exact ⟨by rw [HSN.out]; rfl, B2.out⟩
          | some i =>
            have hi := HF.out i rfl
            have HSN := Lib.hid (show s = some i from HS2.out)
            simp only [idxV]
            have h0 : ¬ ((i : Int) < 0) := by omega
            go_wp2
            go_ret2
            exact ⟨by rw [HSN.out]; rfl, B2.out⟩
      obtain ⟨n, hn⟩ : ∃ n : Nat, fr = (n : Int) := ⟨fr.toNat, by omega⟩
      subst hn
      have hm : max (n : Int) 0 = (n : Int) := by omega
      have hnl : n < rs.length := by omega
      have h2 : ¬ ((rs.length : Int) ≤ (n : Int)) := h1
      obtain ⟨g, off, hA⟩ : ∃ g off, A = some ⟨g, off, none⟩ := by
        obtain ⟨g, off, _, _, _, _, hA, _⟩ := HR.out 0 (rs[0]'(by omega)) (by simp)
        exact ⟨g, off, hA⟩
      subst hA
      have HR2 := Lib.hid (HR.out.drop n)
      have hdl : (rs.drop n).length = rs.length - n := List.length_drop
      have hs2 : s = ((rs.drop n).findIdx? (if high then matchH key else matchE key)).map (n + ·) := by
        rw [← hs]; unfold searchN; rw [if_neg (by rintro (h | h) <;> omega)]; rfl
      have HF := Lib.hid (fun (i : Nat) (h : (rs.drop n).findIdx? (if high then matchH key else matchE key) = some i) => (by
        rw [List.findIdx?_eq_some_iff_getElem] at h
        have := h.1
        omega : n + i < rs.length))
      have HS2 := Lib.hid hs2
      have HE := Lib.hid (fun wx (hx : Below w.heap.size w wx) => (by
        have h := indexE_any (some ⟨g, off + n * 4, none⟩) (rs.drop n) (c - n) key A2 c2 wx (HR2.out.grow hx) (by unfold maxLen at hcm ⊢; omega) (HK.out.grow hx)
        rw [hdl] at h; exact h : Calls Tryz.prog 235 #[.slice (some ⟨g, off + n * 4, none⟩) (rs.length - n) (c - n), .func (.func 262) #[.slice A2 key.length c2] #[]] wx fun e w' => e = .returned (.int .i64 (idxV ((rs.drop n).findIdx? (matchE key)))) ∧ Below wx.heap.size wx w'))
      have HH := Lib.hid (fun wx (hx : Below w.heap.size w wx) => (by
        have h := indexH_any (some ⟨g, off + n * 4, none⟩) (rs.drop n) (c - n) key A2 c2 wx (HR2.out.grow hx) (by unfold maxLen at hcm ⊢; omega) (HK.out.grow hx)
        rw [hdl] at h; exact h : Calls Tryz.prog 235 #[.slice (some ⟨g, off + n * 4, none⟩) (rs.length - n) (c - n), .func (.func 263) #[.slice A2 key.length c2] #[]] wx fun e w' => e = .returned (.int .i64 (idxV ((rs.drop n).findIdx? (matchH key)))) ∧ Below wx.heap.size wx w'))
      have hnc : n ≤ c := by omega
      have hnc2 : c - n ≠ 0 := by omega
      clear hs hs2 hdl h0 h1 hneg
      go_enter Tryz.func252, Tryz.ntmps252
      cases high
      · simp only [Bool.false_eq_true, if_false] at HF HS2
        go_wp2_with fail
        with_reducible refine (HE.out _ (Below.refl _ _)).mono ?_
        rintro e w2 ⟨rfl, b2⟩
        have B2 := Lib.hid b2
        clear b2 HE HH
        generalize List.findIdx? (matchE key) (rs.drop n) = f at *
        cases f with
        | none =>
          have HSN := Lib.hid (show s = none from HS2.out)
          simp only [idxV]
          go_wp2
          go_ret2
          exact ⟨by rw [HSN.out]; rfl, B2.out⟩
        | some i =>
          have hi := HF.out i rfl
          have HSN := Lib.hid (show s = some (n + i) from HS2.out)
          simp only [idxV]
          have h0 : ¬ ((i : Int) < 0) := by omega
          go_wp2
          go_ret2
          exact ⟨by rw [HSN.out]; rfl, B2.out⟩
      · simp only [if_true] at HF HS2
        go_wp2_with fail
        with_reducible refine (HH.out _ (Below.refl _ _)).mono ?_
        rintro e w2 ⟨rfl, b2⟩
        have B2 := Lib.hid b2
        clear b2 HE HH
        generalize List.findIdx? (matchH key) (rs.drop n) = f at *
        cases f with
        | none =>
          have HSN := Lib.hid (show s = none from HS2.out)
          simp only [idxV]
          go_wp2
          go_ret2
          exact ⟨by rw [HSN.out]; rfl, B2.out⟩
        | some i =>
          have hi := HF.out i rfl
          have HSN := Lib.hid (show s = some (n + i) from HS2.out)
          simp only [idxV]
          have h0 : ¬ ((i : Int) < 0) := by omega
          go_wp2
          go_ret2
          exact ⟨by rw [HSN.out]; rfl, B2.out⟩
end
end Go.Proofs.YtfhpaehfihnjaaaGreat.D
namespace Go.Proofs.YtfhpaehfihnjaaaGreat.D
open Go.RowKit
theorem less_eq : ∀ (a b : List UInt8), Op.bytesLess a b = decide (Lib.compareBytes a b < 0)
  | [], [] => by simp [Op.bytesLess, Lib.compareBytes]
  | [], _ :: _ => by simp [Op.bytesLess, Lib.compareBytes]
  | _ :: _, [] => by simp [Op.bytesLess, Lib.compareBytes]
  | x :: a, y :: b => by
    have ih := less_eq a b
    unfold Op.bytesLess Lib.compareBytes
    by_cases h : x < y
    · have h2 : x ≠ y := by rintro rfl; exact UInt8.lt_irrefl _ h
      simp [h]
    · by_cases h2 : y < x
      · have h3 : x ≠ y := by rintro rfl; exact UInt8.lt_irrefl _ h2
        simp [h, h2, h3]
      · have h3 : x = y := by
          apply UInt8.toNat_inj.1
          simp only [UInt8.lt_iff_toNat_lt] at h h2
          omega
        subst h3
        simp [ih]
theorem cmp_self : ∀ (a : List UInt8), Lib.compareBytes a a = 0
  | [] => rfl
  | x :: a => by unfold Lib.compareBytes; simp [UInt8.lt_irrefl, cmp_self a]
def hitB (fr : Int) (key : List UInt8) (high : Bool) (i : Nat) (x : Rec) : Bool :=
  decide (fr ≤ i) && !decide (key.length = 0) && (if high then matchH key x else matchE key x)
theorem searchN_some {rs : List Rec} {fr : Int} {key : List UInt8} {high : Bool} {k : Nat} {x : Rec} (hx : rs[k]? = some x) (hp : hitB fr key high k x = true) (h : ∀ j y, j < k → rs[j]? = some y → hitB fr key high j y = false) : searchN rs fr key high = some k := by
  unfold hitB at hp
  simp only [Bool.and_eq_true, decide_eq_true_iff, Bool.not_eq_true', decide_eq_false_iff_not] at hp
  obtain ⟨⟨h1, h2⟩, h3⟩ := hp
  have hk := (List.getElem?_eq_some_iff.1 hx).1
  unfold searchN
  rw [if_neg (by rintro (h | h) <;> omega), findIdx_some (k := k - fr.toNat) (x := x) (by rw [List.getElem?_drop, ← hx]; congr 1; omega) (by cases high <;> exact h3)]
  · simp only [Option.map_some]; congr 1; omega
  · intro j y hj hy
    rw [List.getElem?_drop] at hy
    have := h _ y (by omega) hy
    unfold hitB at this
    rw [decide_eq_true (by omega : fr ≤ ((fr.toNat + j : Nat) : Int)), decide_eq_false h2] at this
    cases high <;> simpa using this
theorem searchN_none {rs : List Rec} {fr : Int} {key : List UInt8} {high : Bool} (h : ∀ j y, j < rs.length → rs[j]? = some y → hitB fr key high j y = false) : searchN rs fr key high = none := by
  unfold searchN
  split
  · rfl
  · rename_i hn
    rw [findIdx_none]
    · rfl
    · intro j y hj hy
      rw [List.length_drop] at hj
      rw [List.getElem?_drop] at hy
      have := h _ y (by omega) hy
      unfold hitB at this
      rw [decide_eq_true (by omega : fr ≤ ((fr.toNat + j : Nat) : Int)), decide_eq_false (by omega)] at this
      cases high <;> simpa using this
theorem hit_before {fr : Int} {key : List UInt8} {high : Bool} {i : Nat} {x : Rec} (h : (i : Int) < fr) : hitB fr key high i x = false := by
  unfold hitB; rw [decide_eq_false (by omega)]; rfl
theorem hit_bad {fr : Int} {key : List UInt8} {high : Bool} {i : Nat} {x : Rec} (h : x.bad = true) : hitB fr key high i x = false := by
  unfold hitB matchH matchE; rw [h]; cases high <;> simp
theorem hit_zero {fr : Int} {key : List UInt8} {high : Bool} {i : Nat} {x : Rec} (h : key.length = 0) : hitB fr key high i x = false := by
  unfold hitB; simp [h]
theorem hit_len {fr : Int} {key : List UInt8} {high : Bool} {i : Nat} {x : Rec} (h : x.key.length ≠ key.length) : hitB fr key high i x = false := by
  have h2 : x.key ≠ key := fun e => h (by rw [e])
  unfold hitB matchH matchE; cases high <;> simp [h, h2]
theorem hit_else {fr : Int} {key : List UInt8} {high : Bool} {i : Nat} {x : Rec} (h1 : fr ≤ i) (h2 : x.bad = false) (h3 : key.length ≠ 0) (h4 : x.key.length = key.length) : hitB fr key high i x = (decide (x.key = key) || (high && !(Op.bytesLess x.key key || decide (x.key = key)))) := by
  unfold hitB matchH matchE
  rw [decide_eq_true h1, decide_eq_false h3, h2]
  cases high
  · simp
  · simp only [if_true, h4, decide_true, less_eq]
    by_cases h : x.key = key
    · rw [h, cmp_self]; simp
    · by_cases h5 : Lib.compareBytes x.key key < 0
      · have h6 : ¬ (0 ≤ Lib.compareBytes x.key key) := by omega
        simp [h, h5, h6]
      · have h6 : 0 ≤ Lib.compareBytes x.key key := by omega
        simp [h, h5, h6]
theorem bytes_less (a b : List UInt8) : Op.bytesLess (⟨a.toArray⟩ : ByteArray).toList (⟨b.toArray⟩ : ByteArray).toList = Op.bytesLess a b := by
  rw [ByteArray.toList_eq, ByteArray.toList_eq]
end Go.Proofs.YtfhpaehfihnjaaaGreat.D
