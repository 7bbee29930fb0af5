/- UnitrecLimits: the walk. -/
import Derived.Test.YtgklbilkfmieoaaWCards
import Derived.Test.YtgklbilkfmieoaaThin
import Derived.Test.YtgklbilkfmieoaaSepK
namespace Go.Proofs.Ytgklbilkfmieoaa
open Go.RowKit

theorem DeckRd.sub {W : World} {F : List SA} {A : Option Addr} {cs ds : List (List UInt8)} (h : DeckRd W F A cs) (hs : ∀ (j : Nat) (x : List UInt8), ds[j]? = some x → cs[j]? = some x) : DeckRd W F A ds := by
  obtain ⟨b, off, f, h⟩ := h
  exact ⟨b, off, f, fun w S j x hj => h w S j x (hs j x hj)⟩
theorem DeckRd.nil {W : World} {F : List SA} {A : Option Addr} : DeckRd W F A [] := ⟨0, 0, fun _ => (none, 0), fun w S j x hj => by simp at hj⟩
/-- A block of slices, read from any place on. -/
theorem DeckRd.cel {W : World} {F : List SA} {x : Nat} (a : Nat) {cur : Array Value} {t : TypeId} {qs : List (Value × List UInt8)} (hc : ∀ (j : Nat) (u : Value), (qs.map Prod.fst)[j]? = some u → cur[j]? = some u) :
    DeckRd W (cel x cur t :: star (qs.map cardS) :: F) (some ⟨x, a, none⟩) ((qs.map Prod.snd).drop a) := by
  refine ⟨x, a, fun j => match qs[a + j]? with | some (.slice B _ c', _) => (B, c') | _ => (none, 0), fun w S j y hj => ?_⟩
  rw [List.getElem?_drop, List.getElem?_map] at hj
  cases hp : qs[a + j]? with
  | none => rw [hp] at hj; cases hj
  | some p =>
    rw [hp] at hj; injection hj with hj; subst hj
    have c7 := S.look.1 (a + j)
    rw [hc _ p.1 (by rw [List.getElem?_map, hp]; rfl)] at c7
    have S9 := SL.take S.s1 (i := a + j) (P := cardS p) (by rw [List.getElem?_map, hp]; rfl)
    unfold cardS at S9
    obtain ⟨A8, c8, e8, h8, h9⟩ := own_slice S9.own
    obtain ⟨v, y⟩ := p
    dsimp only at e8
    subst e8
    simp only [hp]
    exact ⟨trivial, c7, S9.at_, h8, h9⟩
theorem take_get {cur : Array Value} {xs : List Value} {n : Nat} (h : cur.toList.take n = xs) (j : Nat) (u : Value) (hu : xs[j]? = some u) : cur[j]? = some u := by
  rw [← h, List.getElem?_take] at hu
  split at hu
  · simpa using hu
  · cases hu
/-- Behind an append that leaves the old slice readable: the old slice's block. -/
theorem pushed {W w' : World} {F : List SA} {A A' : Option Addr} {n m c c' : Nat} {us xs : List Value} {e : TypeId} (hn : 0 < n) (hx : xs.length = n)
    (h : (∃ c0, Value.slice A n c = .slice A' n c0 ∧ SL W (rowS e 1 (.slice A' (n + m) c') (n + m) (xs ++ us) :: F) w') ∨ SL W (rowS e 1 (.slice A' (n + m) c') (n + m) (xs ++ us) :: rowS e 1 (.slice A n c) n xs :: F) w') :
    ∃ (x : Nat) (cur : Array Value), A = some ⟨x, 0, none⟩ ∧ (∀ (j : Nat) (u : Value), xs[j]? = some u → cur[j]? = some u) ∧ SL W (cel x cur e :: F) w' := by
  rcases h with ⟨c0, h0, S⟩ | S
  · injection h0 with h0 _ _
    subst h0
    obtain ⟨x, cap, cur, hv, _, _, _, ht, S'⟩ := S.rowCel (by omega)
    injection hv with hv _ _
    refine ⟨x, cur, hv, fun j u hu => ?_, S'⟩
    refine take_get ht j u ?_
    rw [List.getElem?_append_left (by have := (List.getElem?_eq_some_iff.1 hu).1; exact this)]
    exact hu
  · obtain ⟨x, cap, cur, hv, _, _, _, ht, S'⟩ := S.drop.rowCel hn
    injection hv with hv _ _
    exact ⟨x, cur, hv, fun j u hu => take_get ht j u hu, S'⟩
section
variable {P : Program} {W w : World} {F : List SA} {t ty e : TypeId} {z : Value} {size bytes : Nat} {o : Oper} {a : Act} {Q : Exit → Act → World → Prop} {K : Act → World → Prop}
theorem wp_pushK (s x : Operand) (t : TypeId) (ho : o.op = .call { callee := .builtin .append, args := #[s, x], argTypes := #[t, t] }) (E : Elem P t e z size bytes)
    (w0 : World) (us : List Value) (k : Nat) (hw : w = w0.alloc (.cells us.toArray e)) (hus : us.length = k * size) (h1 : ∀ u ∈ us, u.oneCell' = true)
    (v : Value) (n : Nat) (xs : List Value) (hs : a.eval s = v) (hx : a.eval x = .slice (some ⟨w0.heap.size, 0, none⟩) k k) (S : SL W (rowS e size v n xs :: F) w0)
    (h63 : n + k ≤ maxLen) (hbytes : (n + k) * bytes ≤ 140737488355328)
    (h : ∀ A c w', ((∃ c0, v = .slice A n c0 ∧ SL W (rowS e size (.slice A (n + k) c) (n + k) (xs ++ us) :: F) w') ∨ SL W (rowS e size (.slice A (n + k) c) (n + k) (xs ++ us) :: rowS e size v n xs :: F) w') → K (a.put o.dst (.slice A (n + k) c)) w') : o.wp P a w K Q := by
  subst hw
  obtain ⟨A', c', w', hrun, hS⟩ := run_appK (ty := o.type) E (S.allocC us.toArray e).drop ⟨w0.heap.size, 0, none⟩ k k us (fun j u hu => by
    rw [add_none, Nat.zero_add, cell_of_row _ _ _ _ e (0, 0) (heap_alloc_new w0 _)]
    simpa using hu) hus h1 h63 hbytes
  refine wp_known _ w' ?_ (h A' c' w' hS)
  unfold execOp
  simp only [ho, resolve, invoke, builtin, Sem.run_bind, Sem.run_pure, Result.andThen_ok, List.map_toArray, List.map_cons, List.map_nil, hs, hx, hrun]
end
section
variable {W w : World} {F : List SA}
set_option maxHeartbeats 2000000 in
/-- Too many cards. -/
theorem rnew_long (n : Nat) (A : Option Addr) (c : Nat) (S : SL W F w) (hn : n ≤ maxLen) (h : 4096 < n) :
    Calls Try.prog 32 #[.slice A n c] w fun e w' => e = .returned (.tuple #[.pointer none, .int .i64 2]) ∧ SL W F w' := by
  have HA := Lib.hid (fun rb (w1 : World) (S1 : SL W (readerS rb 0 0 0 [] :: F) w1) => radd_long rb 0 0 0 [] A n c S1 (by simp) hn (by simpa using h))
  have HS := Lib.hid S
  clear S h hn
  go_enter Try.func32, Try.ntmps32
  have H1 := Lib.hid (readerS_close (deckS_close (ps := []) ((HS.out.allocC #[.int .i64 (0 : Nat), .slice none 0 0, .int .i64 (0 : Nat), .int .i64 (0 : Nat)] 87).empty.nil _ _)).s1)
  go_wp2_with fail
  refine (HA.out _ _ H1.out).mono ?_
  rintro e w1 ⟨rfl, rfl⟩
  go_wp2
  go_ret2
  exact ⟨rfl, H1.out.drop⟩
end
theorem addErr_ok {cs ds : List (List UInt8)} (h : cs.length + ds.length ≤ 4096) (h8 : ∀ x ∈ ds, x.length = 80) : addErr cs ds = 0 := by
  unfold addErr
  rw [if_neg (by omega), if_pos]
  rw [List.all_eq_true]
  intro x hx
  simpa using h8 x hx
theorem addErr_long {cs ds : List (List UInt8)} (h : 4096 < cs.length + ds.length) : addErr cs ds = 2 := by
  unfold addErr
  rw [if_pos h]
/-- Add, its outcome known. -/
theorem radd_known {W w : World} {F : List SA} (rb se tk st : Nat) (cs ds es : List (List UInt8)) (er : Int) (A : Option Addr) (n c : Nat) (hn : ds.length = n) (he : addErr cs ds = er) (hes : es = if er = 0 then cs ++ ds else cs) (S : SL W (readerS rb se tk st cs :: F) w) (hr : DeckRd W F A ds) (hcs : cs.length ≤ 4096) (hd : ds.length ≤ maxLen) :
    Calls Try.prog 33 #[.pointer (some ⟨rb, 0, none⟩), .slice A n c] w fun e w' => e = .returned (.int .i64 er) ∧ SL W (readerS rb se tk st es :: F) w' := by
  subst hn; subst he
  have := radd_any rb se tk st cs ds A c S hr hcs hd
  rw [hes]
  exact this
/-- What a printer and a punch do while there is room. -/
theorem prDo_0 (s : PS) (h : s.lines.length ≠ 8192) : ∃ s1, prDo s 1 [] = (s1, [], 12, 0) ∧ s1.lines.length = s.lines.length + 1 ∧ s1.down = s.down ∧ s1.sense = s.sense := by
  refine ⟨(s.write []).move 0, ?_, by simp [PS.move, PS.write], by simp [PS.move, PS.write, prMove], by simp [PS.move, PS.write]⟩
  simp only [prDo, prOwn, prMoves, PS.feel]
  simp [h, PS.write, PS.move]
theorem prDo_1 (s : PS) (h : s.lines.length ≠ 8192) : ∃ s1, prDo s 9 [] = (s1, [], 12, 0) ∧ s1.lines.length = s.lines.length + 1 ∧ s1.down = s.down + 1 ∧ s1.sense = s.sense := by
  refine ⟨(s.write []).move 1, ?_, by simp [PS.move, PS.write], by simp [PS.move, PS.write, prMove], by simp [PS.move, PS.write]⟩
  simp only [prDo, prOwn, prMoves, PS.feel]
  simp [h, PS.write, PS.move]
theorem prDo_full (s : PS) (h : s.lines.length = 8192) : prDo s 137 [] = ({ s with sense := 64 }, [], 14, 64) := by
  simp only [prDo, prOwn, prMoves, PS.feel]
  simp [h]
theorem prDo_sp (s : PS) : ∃ s1, prDo s 11 [] = (s1, [], 12, 0) := by
  refine ⟨s.move 1, ?_⟩
  simp only [prDo, prOwn, prMoves, PS.feel]
  simp [PS.move]
theorem punDo_ok (cs : List (List UInt8)) (h : cs.length ≠ 4096) : ∃ ds, punDo 0 cs 1 [] = (0, ds, [], 12, 0) ∧ ds.length = cs.length + 1 := by
  refine ⟨cs ++ [[] ++ List.replicate 80 0x40], ?_, by simp⟩
  simp [punDo, punOwn, h]
theorem punDo_full (cs : List (List UInt8)) (h : cs.length = 4096) : punDo 0 cs 1 [] = (64, cs, [], 14, 64) := by
  simp [punDo, punOwn, h]section
variable {W w : World} {F : List SA}
theorem prS_close {pb : Nat} {s : PS} {A : Option Addr} {c : Nat} (S : SL W (cel pb #[.int .i64 (s.sense : Int), .slice A s.lines.length c, .int .i64 ((s.down / 60 + 1 : Nat) : Int), .int .i64 ((s.down % 60 + 1 : Nat) : Int)] 78 :: rowS 45 3 (.slice A s.lines.length c) s.lines.length (s.lines.flatMap lineCells) :: F) w) : SL W (prS pb s :: F) w :=
  SL.pack (L := [cel pb #[.int .i64 (s.sense : Int), .slice A s.lines.length c, .int .i64 ((s.down / 60 + 1 : Nat) : Int), .int .i64 ((s.down % 60 + 1 : Nat) : Int)] 78, rowS 45 3 (.slice A s.lines.length c) s.lines.length (s.lines.flatMap lineCells)]) S fun h ⟨h1, h2, p, ⟨h3, h4, q, _, _, l3, _⟩, _, l1, l2⟩ => by
    refine ⟨A, c, l1 _ _ p, q.1, ?_⟩
    rcases q.2 with h0 | ⟨g, cap, cur, hv, hg, rest⟩
    · exact Or.inl h0
    · exact Or.inr ⟨g, cap, cur, hv, l2 _ _ (l3 _ _ hg), rest⟩
theorem pnew_S (S : SL W F w) : Calls Try.prog 13 #[] w fun e w' => ∃ tb, e = .returned (.pointer (some ⟨tb, 0, none⟩)) ∧ SL W (prS tb ⟨0, [], 0⟩ :: F) w' := by
  have HS := Lib.hid S
  clear S
  go_enter Try.func13, Try.ntmps13
  go_wp2
  go_ret
  exact ⟨_, rfl, prS_close (s := ⟨0, [], 0⟩) (A := none) (c := 0) ((HS.out.allocC #[.int .i64 0, .slice none 0 0, .int .i64 1, .int .i64 1] 78).nil _ _).s1⟩
/-- A printer's command without data, its result known. -/
theorem prdo_S {tb : Nat} {s s1 : PS} (op : Int) (rd : List UInt8) (st sn : Int) (S : SL W (prS tb s :: F) w) (hF : ∀ P ∈ F, Thin P) (hg : s.good) (h : prDo s op [] = (s1, rd, st, sn)) :
    Calls Try.prog 15 #[.pointer (some ⟨tb, 0, none⟩), .int .i64 op, .slice none 0 0] w fun e w' => ∃ A c, e = .returned (.agg #[.slice A rd.length c, .int .i64 st, .int .i64 sn]) ∧ SL W (prS tb s1 :: F) w' := by
  have hd := pdo_any tb W.heap.size s op none [] 0 w (prS_at S) hg At.nil_ (by simp) (by simp [maxLen])
  rw [h] at hd
  refine (show Calls _ _ _ _ _ from hd).mono ?_
  rintro e w' ⟨⟨A, c, he, _⟩, hp, hf⟩
  exact ⟨A, c, he, prS_step S hF hp hf⟩
/-- A punch's command without data, its result known. -/
theorem pundo_S {pb se se1 : Nat} {cs ds : List (List UInt8)} (op : Int) (rd : List UInt8) (st sn : Int) (S : SL W (punchS pb se cs :: F) w) (hcs : cs.length ≤ 4096) (hse : se < 256) (h : punDo se cs op [] = (se1, ds, rd, st, sn)) :
    Calls Try.prog 27 #[.pointer (some ⟨pb, 0, none⟩), .int .i64 op, .slice none 0 0] w fun e w' => ∃ A c, e = .returned (.agg #[.slice A rd.length c, .int .i64 st, .int .i64 sn]) ∧ SL W (punchS pb se1 ds :: F) w' := by
  have hd := pundo_any pb se cs op none [] 0 S Rd.nil_ (by simp) (by simp [maxLen]) hcs hse
  rw [h] at hd
  refine (show Calls _ _ _ _ _ from hd).mono ?_
  rintro e w' ⟨A, c, he, S'⟩
  exact ⟨A, c, he, S'.drop⟩
end

set_option maxRecDepth 100000 in
set_option maxHeartbeats 40000000 in
theorem walk_unitrecLimits (W : World) :
    Calls Try.prog 7 #[] W fun e W' => e = .returned (.bool true) ∧ Below W.heap.size W W' := by
  go_enter Try.func7, Try.ntmps7
  go_wp2_with fail
  have H0 := Lib.hid (SL.start W)
  go_loopw [1, 2] (fun o i wr => ∃ (k : Nat) (A : Option Addr) (cc : Nat) (qs : List (Value × List UInt8)), k ≤ 4096 ∧ i = .int .i64 k ∧ o = .slice A k cc ∧ qs.length = k ∧ qs.map Prod.snd = deckL k 64 ∧
    SL W [rowS 31 1 (.slice A k cc) k (qs.map Prod.fst), star (qs.map cardS)] wr) (fun _ i _ => 4096 - (intOf i).toNat)
  case atStart => exact ⟨0, none, 0, [], Nat.zero_le _, rfl, rfl, rfl, rfl, H0.out.empty.nil _ _⟩
  case round =>
    obtain ⟨k, A3, c3, qs, hk, rfl, rfl, hq1, hq2, S1⟩ := hrel
    have HQ := Lib.hid (And.intro hq1 hq2)
    have H1 := Lib.hid S1
    clear H0 S1 hq1 hq2
    by_cases hlt : k < 4096
    · go_wp2_with fail
      refine (card_any k 64 (by omega) H1.out).mono ?_
      rintro e w2 ⟨A2, c2, rfl, S2⟩
      have H2 := Lib.hid S2
      clear S2 H1
      go_wp2_with (at_builtin; refine wpList_pushS rfl _ _ _ rfl deckElem w2 [.slice A2 80 c2] 1 rfl rfl (by simp [Value.oneCell']) _ k _ rfl rfl H2.out.s1 (by unfold maxLen; omega) (by omega) ?_
                   intro A6 c6 w6 S6
                   have H6 := Lib.hid S6
                   clear S6 H2)
      go_roundw
      case rel =>
        refine ⟨k + 1, A6, c6, qs ++ [(.slice A2 80 c2, cardB k 64)], by omega, by go_num, rfl, by simp [HQ.out.1], by rw [deckL_succ, ← HQ.out.2]; simp, ?_⟩
        simp only [List.map_append, List.map_cons, List.map_nil]
        exact (SL.snoc (P := cardS (.slice A2 80 c2, cardB k 64)) H6.out.b2).s1
      case measure => simp [intOf]; omega
    · obtain rfl : k = 4096 := by omega
      have hdl := deckL_len 4096 64
      have h80 := deckL_80 4096 64
      have hq1 := HQ.out.1
      have hq2 := HQ.out.2
      generalize deckL 4096 64 = D at *
      have HDL := Lib.hid hdl
      have H80 := Lib.hid h80
      have HQ2 := Lib.hid hq2
      have HQ1 := Lib.hid hq1
      clear HQ hq1 hq2 hdl h80 hk
      obtain ⟨_, _, e3, hc3, hc4⟩ := own_slice H1.out.own
      injection e3 with e3 _ e4
      subst e3; subst e4
      clear hlt
      have HN := Lib.hid (show Calls Try.prog 32 #[.slice A3 4096 c3] wr (RNew W _ D 0) from by
        have h := rnew_any D A3 c3 H1.out (deckRd_of HQ2.out) (by rw [HDL.out]; unfold maxLen; omega)
        rw [HDL.out, addErr_ok (by rw [HDL.out]; simp) H80.out] at h
        exact h)
      go_wp2_with fail
      refine HN.out.mono ?_
      intro e w2 hn
      obtain ⟨rb, rfl, S2⟩ := hn.1 rfl
      have H2 := Lib.hid S2
      clear S2 hn HN H1
      go_wp2_with fail
      refine (card_any 1 1 (by omega) H2.out).mono ?_
      rintro e w3 ⟨A4, c4, rfl, S3⟩
      have H3 := Lib.hid S3
      clear S3 H2
      go_wp2_with (at_builtin; go_loud (refine wpList_pushK rfl _ _ _ rfl deckElem w3 [.slice A4 80 c4] 1 rfl rfl (by simp [Value.oneCell']) _ 4096 _ rfl rfl H3.out.s2 (by unfold maxLen; omega) (by omega) ?_)
                   intro A6 c6 w6 S6
                   have H6 := Lib.hid (pushed (by omega) (by rw [List.length_map]; exact HQ1.out) S6)
                   clear S6 H3)
      refine (rnew_long 4097 A6 c6 (SL.start _) (by unfold maxLen; omega) (by omega)).mono ?_
      rintro e w7 ⟨rfl, S7⟩
      obtain ⟨x, cur, rfl, hcur, S6⟩ := H6.out
      have H7 := Lib.hid ((S6.grow S7.1).s1.drop.s2.s1)
      have HCUR := Lib.hid hcur
      clear S6 S7 hcur H6
      have hd1 : (D.drop 1).length = 4095 := by rw [List.length_drop, HDL.out]
      have hd180 : ∀ x ∈ D.drop 1, x.length = 80 := fun x hx => H80.out x (List.mem_of_mem_drop hx)
      have ht1 : (D.take 1).length = 1 := by rw [List.length_take, HDL.out]; rfl
      have ht180 : ∀ x ∈ D.take 1, x.length = 80 := fun x hx => H80.out x (List.mem_of_mem_take hx)
      have ht2 : (D.take 2).length = 2 := by rw [List.length_take, HDL.out]; rfl
      have HDK : DeckRd W [cel x cur 31, star (qs.map cardS)] (some ⟨x, 0, none⟩) D := by
        have h := DeckRd.cel (W := W) (F := []) (x := x) 0 (t := 31) HCUR.out
        rw [HQ2.out, List.drop_zero] at h
        exact h
      have HDT : ∀ n R, DeckRd W [R, cel x cur 31, star (qs.map cardS)] (some ⟨x, 0, none⟩) (D.take n) := fun n R => (HDK.sub (fun j y hy => by
        rw [List.getElem?_take] at hy
        split at hy
        · exact hy
        · cases hy)).cons
      have HT1 := Lib.hid (HDT 1)
      have HT2 := Lib.hid (HDT 2)
      have HD1 := Lib.hid (show DeckRd W [cel x cur 31, star (qs.map cardS), readerS rb 0 0 0 D] (some ⟨x, 1, none⟩) (D.drop 1) from by
        have h := DeckRd.cel (W := W) (F := [readerS rb 0 0 0 D]) (x := x) 1 (t := 31) HCUR.out
        rw [HQ2.out] at h
        exact h)
      clear HDK HDT HCUR HQ2
      generalize D.drop 1 = D1 at *
      generalize D.take 1 = T1 at *
      generalize D.take 2 = T2 at *
      have HL := Lib.hid (And.intro hd1 (And.intro ht1 ht2))
      have HE := Lib.hid (And.intro hd180 ht180)
      clear hd1 ht1 ht2 hd180 ht180
      have HN := Lib.hid (show Calls Try.prog 32 #[.slice (some ⟨x, 1, none⟩) 4095 (c3 - 1)] w7 (RNew W _ D1 0) from by
        have h := rnew_any D1 (some ⟨x, 1, none⟩) (c3 - 1) H7.out HD1.out (by rw [HL.out.1]; unfold maxLen; omega)
        rw [HL.out.1, addErr_ok (by rw [HL.out.1]; simp) HE.out.1] at h
        exact h)
      go_wp2_with fail
      refine HN.out.mono ?_
      intro e w8 hn
      obtain ⟨qb, rfl, S8⟩ := hn.1 rfl
      have H8 := Lib.hid S8.s3
      clear S8 hn HN H7 HD1
      go_wp2_with fail
      refine (radd_known rb 0 0 0 D T1 D 2 (some ⟨x, 0, none⟩) 1 c3 HL.out.2.1 (addErr_long (by rw [HDL.out, HL.out.2.1]; omega)) rfl H8.out (HT1.out _) (by rw [HDL.out]; exact Nat.le_refl _) (by rw [HL.out.2.1]; decide)).mono ?_
      rintro e w9 ⟨rfl, S9⟩
      have H9 := Lib.hid S9.s1
      clear S9 H8
      go_wp2_with fail
      refine (radd_known qb 0 0 0 D1 T2 D1 2 (some ⟨x, 0, none⟩) 2 c3 HL.out.2.2 (addErr_long (by rw [HL.out.1, HL.out.2.2]; omega)) rfl H9.out (HT2.out _) (by rw [HL.out.1]; omega) (by rw [HL.out.2.2]; decide)).mono ?_
      rintro e w10 ⟨rfl, S10⟩
      have H10 := Lib.hid S10
      clear S10 H9
      go_wp2_with fail
      refine (radd_known qb 0 0 0 D1 T1 (D1 ++ T1) 0 (some ⟨x, 0, none⟩) 1 c3 HL.out.2.1 (addErr_ok (by rw [HL.out.1, HL.out.2.1]; decide) HE.out.2) rfl H10.out (HT1.out _) (by rw [HL.out.1]; omega) (by rw [HL.out.2.1]; decide)).mono ?_
      rintro e w11 ⟨rfl, S11⟩
      have H11 := Lib.hid S11
      clear S11 H10
      go_wp2_with fail
      refine (radd_known qb 0 0 0 (D1 ++ T1) [] (D1 ++ T1) 0 none 0 0 rfl (addErr_ok (by rw [List.length_append, HL.out.1, HL.out.2.1]; decide) (by intro x hx; cases hx)) (by rw [if_pos rfl, List.append_nil]) H11.out DeckRd.nil (by rw [List.length_append, HL.out.1, HL.out.2.1]; decide) (by decide)).mono ?_
      rintro e w12 ⟨rfl, S12⟩
      have H12 := Lib.hid S12
      clear S12 H11
      go_wp2_with fail
      have hcd := rcards_any qb 0 0 0 (D1 ++ T1) H12.out
      rw [List.length_append, HL.out.1, HL.out.2.1] at hcd
      refine hcd.mono ?_
      rintro e w13 ⟨rfl, rfl⟩
      clear hcd
      have H13 := Lib.hid (show SL W [] w12 from H12.out.drop.drop.drop.drop)
      clear H12 HT1 HT2 HL HE HDL H80 HQ1
      go_wp2_with fail
      refine (punnew_any H13.out).mono ?_
      rintro e w14 ⟨pb, rfl, S14⟩
      have H14 := Lib.hid S14
      clear S14 H13
      go_wp2_with fail
      refine (pnew_S H14.out).mono ?_
      rintro e w15 ⟨tb, rfl, S15⟩
      have H15 := Lib.hid S15.s1
      clear S15 H14
      go_wp2_with fail
      go_loopw [11] (fun i wr => ∃ (k : Nat) (cs : List (List UInt8)) (s : PS), k ≤ 4096 ∧ i = .int .i64 k ∧ cs.length = k ∧ s.lines.length = 2 * k ∧ s.down = k ∧ s.sense = 0 ∧ SL W [punchS pb 0 cs, prS tb s] wr) (fun i _ => 4096 - (intOf i).toNat)
      case atStart => exact ⟨0, [], _, Nat.zero_le _, rfl, rfl, rfl, rfl, rfl, H15.out⟩
      case round =>
        obtain ⟨k, cs, s, hk, rfl, hcs, hsl, hsd, hss, S1⟩ := hrel
        have H1 := Lib.hid S1
        have HS := Lib.hid (And.intro hsl (And.intro hsd hss))
        have HCS := Lib.hid hcs
        clear H15 S1 hsl hsd hss hcs
        by_cases hlt : k < 4096
        · obtain ⟨ds, e1, l1⟩ := punDo_ok cs (by rw [HCS.out]; omega)
          obtain ⟨s1, e2, l2, d2, n2⟩ := prDo_0 s (by rw [HS.out.1]; omega)
          obtain ⟨s2, e3, l3, d3, n3⟩ := prDo_1 s1 (by rw [l2, HS.out.1]; omega)
          have HDS := Lib.hid (show ds.length = k + 1 by rw [l1, HCS.out])
          have HS2 := Lib.hid (show s2.lines.length = 2 * (k + 1) ∧ s2.down = k + 1 ∧ s2.sense = 0 from ⟨by rw [l3, l2, HS.out.1]; omega, by rw [d3, d2, HS.out.2.1], by rw [n3, n2, HS.out.2.2]⟩)
          have E1 := Lib.hid e1
          have E2 := Lib.hid e2
          have E3 := Lib.hid e3
          have HG1 := Lib.hid (show s1.good from ⟨by rw [l2, HS.out.1]; omega, by rw [n2, HS.out.2.2]; omega, by rw [d2, HS.out.2.1]; omega⟩)
          have HG := Lib.hid (show s.good from ⟨by rw [HS.out.1]; omega, by rw [HS.out.2.2]; omega, by rw [HS.out.2.1]; omega⟩)
          clear e1 l1 e2 l2 d2 n2 e3 l3 d3 n3
          have hth : ∀ ds, ∀ P ∈ [punchS pb 0 ds], Thin P := fun ds P hP => by
            obtain rfl := List.mem_singleton.1 hP
            exact thin_punch _ _ _
          have HTH := Lib.hid hth
          clear hth
          go_wp2_with fail
          refine (pundo_S 1 [] 12 0 H1.out (by rw [HCS.out]; omega) (by omega) E1.out).mono ?_
          rintro e w2 ⟨A2, c2, rfl, S2⟩
          have H2 := Lib.hid S2.s1
          clear S2 H1
          go_wp2_with fail
          refine (fine_any _ 12 0 _).mono ?_
          rintro e w3 ⟨rfl, b3⟩
          have H3 := Lib.hid (H2.out.grow b3)
          clear b3 H2
          go_wp2_with fail
          refine (prdo_S 1 [] 12 0 H3.out (HTH.out _) HG.out E2.out).mono ?_
          rintro e w4 ⟨A4, c4, rfl, S4⟩
          have H4 := Lib.hid S4
          clear S4 H3
          go_wp2_with fail
          refine (fine_any _ 12 0 _).mono ?_
          rintro e w5 ⟨rfl, b5⟩
          have H5 := Lib.hid (H4.out.grow b5)
          clear b5 H4
          go_wp2_with fail
          refine (prdo_S 9 [] 12 0 H5.out (HTH.out _) HG1.out E3.out).mono ?_
          rintro e w6 ⟨A6, c6, rfl, S6⟩
          have H6 := Lib.hid S6
          clear S6 H5
          go_wp2_with fail
          refine (fine_any _ 12 0 _).mono ?_
          rintro e w7 ⟨rfl, b7⟩
          have H7 := Lib.hid (H6.out.grow b7)
          clear b7 H6
          go_wp2
          go_roundw
          case rel => exact ⟨k + 1, ds, s2, by omega, by go_num, HDS.out, HS2.out.1, HS2.out.2.1, HS2.out.2.2, H7.out.s1⟩
          case measure => simp [intOf]; omega
        · obtain rfl : k = 4096 := by omega
          have hth : ∀ ds b (u1 u2 u3 : Value), ∀ P ∈ [cel b #[u1, u2, u3] 36, punchS pb 64 ds], Thin P := fun ds b u1 u2 u3 P hP => by
            simp only [List.mem_cons, List.not_mem_nil, or_false] at hP
            rcases hP with rfl | rfl
            · exact thin_cel (by decide)
            · exact thin_punch _ _ _
          have HTH := Lib.hid hth
          have hth2 : ∀ ds b (u1 u2 u3 : Value) b' (v1 v2 v3 : Value), ∀ P ∈ [cel b' #[v1, v2, v3] 36, cel b #[u1, u2, u3] 36, punchS pb 64 ds], Thin P := fun ds b u1 u2 u3 b' v1 v2 v3 P hP => by
            rcases List.mem_cons.1 hP with rfl | hP
            · exact thin_cel (by decide)
            · exact HTH.out _ _ _ _ _ P hP
          have HTH2 := Lib.hid hth2
          have HDU := Lib.hid (punDo_full cs HCS.out)
          have HPF := Lib.hid (prDo_full s (by rw [HS.out.1]))
          obtain ⟨s2, e2⟩ := prDo_sp { s with sense := 64 }
          have E2 := Lib.hid e2
          have HG := Lib.hid (show s.good from ⟨by rw [HS.out.1]; omega, by rw [HS.out.2.2]; omega, by rw [HS.out.2.1]; omega⟩)
          have HG2 := Lib.hid (show ({ s with sense := 64 } : PS).good from ⟨HG.out.1, (by decide : (64 : Nat) < 256), HG.out.2.2⟩)
          have hp1 : (({ s with sense := 64 } : PS).down / 60 + 1) = 69 := by show s.down / 60 + 1 = 69; rw [HS.out.2.1]
          have hp2 : (({ s with sense := 64 } : PS).down % 60 + 1) = 17 := by show s.down % 60 + 1 = 17; rw [HS.out.2.1]
          have HP := Lib.hid (And.intro hp1 hp2)
          clear hth hth2 e2 hp1 hp2 hlt hk
          generalize ({ s with sense := 64 } : PS) = sf at *
          go_wp2_with fail
          refine (pundo_S 1 [] 14 64 H1.out (by rw [HCS.out]; exact Nat.le_refl _) (by omega) HDU.out).mono ?_
          rintro e w2 ⟨A2, c2, rfl, S2⟩
          have H2 := Lib.hid S2
          clear S2 H1
          go_wp2_with fail
          refine name_world (P := fun W => Calls _ _ _ W _) ?_
          intro w3 hw3
          have H3 := Lib.hid (SL.cast hw3 (H2.out.allocC #[.slice A2 0 c2, .int .i64 14, .int .i64 64] 36))
          clear hw3 H2
          generalize w2.heap.size = xb at *
          refine (prdo_S 137 [] 14 64 H3.out.s2 (HTH.out _ _ _ _ _) HG.out HPF.out).mono ?_
          rintro e w4 ⟨A4, c4, rfl, S4⟩
          have H4 := Lib.hid S4
          clear S4 H3
          go_wp2_with fail
          refine name_world (P := fun W => Calls _ _ _ W _) ?_
          intro w5 hw5
          have H5 := Lib.hid (SL.cast hw5 (H4.out.allocC #[.slice A4 0 c4, .int .i64 14, .int .i64 64] 36)).s1
          clear hw5 H4
          generalize w4.heap.size = yb at *
          refine (pat_any tb W.heap.size sf w5 (prS_at H5.out)).mono ?_
          rw [HP.out.1, HP.out.2]
          rintro e w6 ⟨rfl, h6⟩
          have H6 := Lib.hid (H5.out.still h6)
          clear h6 H5
          obtain ⟨Ly, Ky, zy⟩ := H6.out.s1.look
          obtain ⟨Lx, Kx, zx⟩ := H6.out.s2.look
          go_wp2_with fail
          refine (prdo_S 11 [] 12 0 H6.out (HTH2.out _ _ _ _ _ _ _ _ _) HG2.out E2.out).mono ?_
          rintro e w7 ⟨A7, c7, rfl, S7⟩
          have H7 := Lib.hid (show SL W [] w7 from S7.drop.drop.drop.drop)
          clear S7 H6 Ly Ky zy Lx Kx zx
          go_wp2_with fail
          refine (fine_any _ 12 0 _).mono ?_
          rintro e w8 ⟨rfl, b8⟩
          have H8 := Lib.hid (H7.out.grow b8)
          clear b8 H7
          go_wp2_with fail
          refine (works_any _).mono ?_
          rintro e w9 ⟨rfl, b9⟩
          have H9 := Lib.hid (H8.out.grow b9)
          clear b9 H8
          go_wp2
          go_ret
          exact ⟨rfl, H9.out.1⟩
end Go.Proofs.Ytgklbilkfmieoaa
