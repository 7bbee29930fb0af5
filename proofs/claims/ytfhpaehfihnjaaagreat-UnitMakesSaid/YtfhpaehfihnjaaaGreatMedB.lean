/- media: the state of a unit is that of the document. -/
import Derived.Test.YtfhpaehfihnjaaaGreatLawA
import Derived.Test.YtfhpaehfihnjaaaGreatQSetA
import Derived.Test.YtfhpaehfihnjaaaGreatSetLP
import Derived.BigRegion
import Derived.Deep.CutRange
namespace Go.Proofs.YtfhpaehfihnjaaaGreat
open Go.RowKit
theorem SL.s7 {W w : World} {a b c d e f g h : SA} {r : List SA} (S : SL W (a :: b :: c :: d :: e :: f :: g :: h :: r) w) : SL W (h :: a :: b :: c :: d :: e :: f :: g :: r) w := (S.imp fun _ => star_cons fun _ => star_cons fun _ => star_cons fun _ => star_cons fun _ => star_cons fun _ => star_cons fun _ => star_swap).s6
theorem SL.b6 {W w : World} {a b c d e f g : SA} {r : List SA} (S : SL W (a :: b :: c :: d :: e :: f :: g :: r) w) : SL W (b :: c :: d :: e :: f :: g :: a :: r) w := S.s6.s6.s6.s6.s6.s6
theorem SL.b7 {W w : World} {a b c d e f g h : SA} {r : List SA} (S : SL W (a :: b :: c :: d :: e :: f :: g :: h :: r) w) : SL W (b :: c :: d :: e :: f :: g :: h :: a :: r) w := S.s7.s7.s7.s7.s7.s7.s7
theorem SL.s8 {W w : World} {a b c d e f g h i : SA} {r : List SA} (S : SL W (a :: b :: c :: d :: e :: f :: g :: h :: i :: r) w) : SL W (i :: a :: b :: c :: d :: e :: f :: g :: h :: r) w := (S.imp fun _ => star_cons fun _ => star_cons fun _ => star_cons fun _ => star_cons fun _ => star_cons fun _ => star_cons fun _ => star_cons fun _ => star_swap).s7
theorem SL.b8 {W w : World} {a b c d e f g h i : SA} {r : List SA} (S : SL W (a :: b :: c :: d :: e :: f :: g :: h :: i :: r) w) : SL W (b :: c :: d :: e :: f :: g :: h :: i :: a :: r) w := S.s8.s8.s8.s8.s8.s8.s8.s8
theorem lines_at : ∀ (l : List (Nat × Nat × List UInt8)) (k i : Nat) (x : Nat × Nat × List UInt8), l[k]? = some x → i < 3 → (l.flatMap U.lineCells)[k * 3 + i]? = (U.lineCells x)[i]?
  | [], k, i, x, h, _ => by simp at h
  | a :: l, 0, i, x, h, hi => by
    simp at h; subst h
    rw [List.flatMap_cons, List.getElem?_append_left (by simp [U.lineCells]; omega)]
    simp
  | a :: l, k + 1, i, x, h, hi => by
    have := lines_at l k i x (by simpa using h) hi
    rw [List.flatMap_cons, List.getElem?_append_right (by simp [U.lineCells]; omega)]
    rw [← this]
    congr 1
    simp [U.lineCells]
    omega
theorem find_self {s : ST} {k i : Nat} {u : UN} (ok : s.ok k) (hu : s.us[i]? = some u) : s.find u.conf.addr = some i := by
  unfold ST.find
  obtain ⟨hi, rfl⟩ := List.getElem?_eq_some_iff.1 hu
  rw [List.findIdx?_eq_some_iff_getElem]
  refine ⟨hi, by simp, fun j hj => ?_⟩
  have := (List.pairwise_iff_getElem.1 ok.asc) j i (by omega) hi hj
  simp
  omega
theorem kindN_self {s : ST} {k i : Nat} {u : UN} (ok : s.ok k) (hu : s.us[i]? = some u) : kindN s u.conf.addr = u.conf.kind := by
  unfold kindN
  rw [find_self ok hu]
  simp [hu]
section
variable {W w : World} {F : List SA} {x y : Nat} {v v2 : Value} {bs bq : List (Nat × Nat)} {s : ST} {i k : Nat}
theorem qdev_open {b db : Nat} {u : UN} (hp : bq[i]? = some (b, db)) (hu : s.us[i]? = some u) (S : SL W (qsetO y v2 bq s :: F) w) :
    bq.length = s.us.length ∧ SL W (qdevS db u.dev :: cel b (qoneCells db u) 45 :: star ((List.zipWith qoneS bq s.us).eraseIdx i) :: cel y #[v2, .bool s.off] 38 :: rowS 31 1 v2 s.us.length (ptrs bq) :: F) w := by
  obtain ⟨hb, S1⟩ := qset_open S
  exact ⟨hb, (qone_open hp hu S1.s2).s1⟩
theorem qdev_same {b db : Nat} {u : UN} (hb : bq.length = s.us.length) (hp : bq[i]? = some (b, db)) (hu : s.us[i]? = some u)
    (S : SL W (qdevS db u.dev :: cel b (qoneCells db u) 45 :: star ((List.zipWith qoneS bq s.us).eraseIdx i) :: cel y #[v2, .bool s.off] 38 :: rowS 31 1 v2 s.us.length (ptrs bq) :: F) w) : SL W (qsetO y v2 bq s :: F) w :=
  qset_close hb (qone_same hp hu S.s1).b2
theorem getters {u : UN} {b db : Nat} (ok : s.ok k) (hu : s.us[i]? = some u) (hp : bs[i]? = some (b, db)) (S : SL W (setO x v bs s :: F) w) :
    Calls Tryz.prog 11 #[.pointer (some ⟨x, 0, none⟩), .int .i64 u.conf.addr] w (fun e w' => e = .returned (.int .i64 u.conf.kind) ∧ w' = w) ∧
    Calls Tryz.prog 29 #[.pointer (some ⟨x, 0, none⟩), .int .i64 u.conf.addr] w (fun e w' => e = .returned (if u.dev.kind = 1 then ptrV db else .pointer none) ∧ w' = w) ∧
    Calls Tryz.prog 30 #[.pointer (some ⟨x, 0, none⟩), .int .i64 u.conf.addr] w (fun e w' => e = .returned (if u.dev.kind = 2 then ptrV db else .pointer none) ∧ w' = w) ∧
    Calls Tryz.prog 31 #[.pointer (some ⟨x, 0, none⟩), .int .i64 u.conf.addr] w (fun e w' => e = .returned (if u.dev.kind = 3 then ptrV db else .pointer none) ∧ w' = w) ∧
    Calls Tryz.prog 19 #[.pointer (some ⟨x, 0, none⟩), .int .i64 u.conf.addr] w (fun e w' => e = .returned (if u.dev.kind = 4 then ptrV db else .pointer none) ∧ w' = w) ∧
    Calls Tryz.prog 32 #[.pointer (some ⟨x, 0, none⟩), .int .i64 u.conf.addr] w (fun e w' => e = .returned (if u.dev.kind = 5 then ptrV db else .pointer none) ∧ w' = w) := by
  have hf := find_self ok hu
  have g0 := kind_any u.conf.addr ok.len S
  have g1 := getReader_any u.conf.addr ok.len S
  have g2 := getPunch_any u.conf.addr ok.len S
  have g3 := getPrinter_any u.conf.addr ok.len S
  have g4 := getTape_any u.conf.addr ok.len S
  have g5 := getDisk_any u.conf.addr ok.len S
  rw [kindN_self ok hu] at g0
  rw [getP_some hf hp hu] at g1 g2 g3 g4 g5
  exact ⟨g0, g1, g2, g3, g4, g5⟩
theorem stacked_view {u : UN} {b db se tk st : Nat} {cs : List (List UInt8)} (hu : s.us[i]? = some u) (hd : u.dev = .reader se tk st cs) (hp : bs[i]? = some (b, db)) (S : SL W (setO x v bs s :: F) w) :
    Calls Tryz.prog 34 #[.pointer (some ⟨db, 0, none⟩)] w (fun e w' => e = .returned (.int .i64 (tk : Int)) ∧ w' = w) ∧
    Calls Tryz.prog 33 #[.pointer (some ⟨db, 0, none⟩)] w (fun e w' => e = .returned (.int .i64 (cs.length : Int)) ∧ w' = w) ∧
    Calls Tryz.prog 35 #[.pointer (some ⟨db, 0, none⟩)] w (fun e w' => e = .returned (.int .i64 (st : Int)) ∧ w' = w) := by
  have S1 := (dev_open hp hu S).2
  rw [hd] at S1
  exact ⟨(U.rtaken_any db se tk st cs S1).mono fun _ _ h => ⟨h.1, h.2.symm⟩, (U.rcards_any db se tk st cs S1).mono fun _ _ h => ⟨h.1, h.2.symm⟩, (U.rstacked_any db se tk st cs S1).mono fun _ _ h => ⟨h.1, h.2.symm⟩⟩
theorem printer_at {u : UN} {b db : Nat} {p : U.PS} (hu : s.us[i]? = some u) (hd : u.dev = .printer p) (hp : bs[i]? = some (b, db)) (S : SL W (setO x v bs s :: F) w) :
    Calls Tryz.prog 38 #[.pointer (some ⟨db, 0, none⟩)] w (fun e w' => e = .returned (.tuple #[.int .i64 ((p.down / 60 + 1 : Nat) : Int), .int .i64 ((p.down % 60 + 1 : Nat) : Int)]) ∧ Still w w') := by
  have S1 := (dev_open hp hu S).2
  rw [hd] at S1
  exact U.pat_any db W.heap.size p w (U.printS_at S1)
theorem paper_at {u : UN} {b db : Nat} {p : U.PS} (hk : 60 * k ≤ 1000000000) (hdok : (Dev.printer p).ok k) (hu : s.us[i]? = some u) (hd : u.dev = .printer p) (hp : bs[i]? = some (b, db)) (hb : bs.length = s.us.length) (S : SL W (setO x v bs s :: F) w) :
    Calls Tryz.prog 37 #[.pointer (some ⟨db, 0, none⟩)] w (fun e w' => ∃ A c, e = .returned (.slice A p.lines.length c) ∧ SL W (U.linesS (.slice A p.lines.length c) p.lines :: setO x v bs s :: F) w') := by
  have S1 := (dev_open hp hu S).2
  rw [hd] at S1
  refine (U.prpaper_any ⟨hdok.1, hdok.2.1, Nat.le_trans hdok.2.2 hk⟩ S1).mono fun _ _ ⟨A, c, h, S2⟩ => ⟨A, c, h, ?_⟩
  have S3 := SL.b5 S2
  exact (dev_same hb hp hu (F := U.linesS (.slice A p.lines.length c) p.lines :: F) (by rw [hd]; exact S3)).s1
theorem tserial_view {u : UN} {b db : Nat} {nm : ByteArray} {p : T.TP} (_hn : nm.toList.isEmpty = false) (hu : s.us[i]? = some u) (hd : u.dev = .tape nm p) (hp : bs[i]? = some (b, db)) (hb : bs.length = s.us.length) (S : SL W (setO x v bs s :: F) w) :
    Calls Tryz.prog 40 #[.pointer (some ⟨db, 0, none⟩)] w (fun e w' => e = .returned (.string nm) ∧ SL W (setO x v bs s :: F) w') := by
  have S1 := (dev_open hp hu S).2
  rw [hd] at S1
  exact (T.serial_any (s := p) S1).mono fun _ _ ⟨h, S2⟩ => ⟨h, dev_same hb hp hu (by rw [hd]; exact S2)⟩
theorem tat_view {u : UN} {b db : Nat} {nm : ByteArray} {p : T.TP} (hu : s.us[i]? = some u) (hd : u.dev = .tape nm p) (hp : bs[i]? = some (b, db)) (hb : bs.length = s.us.length) (S : SL W (setO x v bs s :: F) w) :
    Calls Tryz.prog 41 #[.pointer (some ⟨db, 0, none⟩)] w (fun e w' => e = .returned (.int .i64 (p.pos : Int)) ∧ SL W (setO x v bs s :: F) w') := by
  have S1 := (dev_open hp hu S).2
  rw [hd] at S1
  exact (T.at_any (s := p) S1).mono fun _ _ ⟨h, S2⟩ => ⟨h, dev_same hb hp hu (by rw [hd]; exact S2)⟩
theorem tloaded_view {u : UN} {b db : Nat} {nm : ByteArray} {p : T.TP} (hu : s.us[i]? = some u) (hd : u.dev = .tape nm p) (hp : bs[i]? = some (b, db)) (hb : bs.length = s.us.length) (S : SL W (setO x v bs s :: F) w) :
    Calls Tryz.prog 42 #[.pointer (some ⟨db, 0, none⟩)] w (fun e w' => e = .returned (.bool p.loaded) ∧ SL W (setO x v bs s :: F) w') := by
  have S1 := (dev_open hp hu S).2
  rw [hd] at S1
  exact (T.loaded_any (s := p) S1).mono fun _ _ ⟨h, S2⟩ => ⟨h, dev_same hb hp hu (by rw [hd]; exact S2)⟩
theorem tblocks_view {u : UN} {b db : Nat} {nm : ByteArray} {p : T.TP} (ok : p.ok) (hu : s.us[i]? = some u) (hd : u.dev = .tape nm p) (hp : bs[i]? = some (b, db)) (hb : bs.length = s.us.length) (S : SL W (setO x v bs s :: F) w) :
    Calls Tryz.prog 20 #[.pointer (some ⟨db, 0, none⟩)] w (fun e w' => ∃ A c, e = .returned (.slice A p.bs.length c) ∧ SL W (T.blksS (.slice A p.bs.length c) p.bs :: setO x v bs s :: F) w') := by
  have S1 := (dev_open hp hu S).2
  rw [hd] at S1
  refine (T.blocks_any (s := p) S1 ok.fit).mono fun _ _ ⟨v1, h, S2⟩ => ?_
  obtain ⟨A, c, rfl, _, _⟩ := T.blksS_slice S2
  have S3 := SL.b5 S2
  exact ⟨A, c, h, (dev_same hb hp hu (F := T.blksS (.slice A p.bs.length c) p.bs :: F) (by rw [hd]; exact S3)).s1⟩
end
end Go.Proofs.YtfhpaehfihnjaaaGreat
