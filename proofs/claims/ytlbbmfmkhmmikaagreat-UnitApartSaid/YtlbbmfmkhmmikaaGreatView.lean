/- What can be seen of a set's units: its devices' media. -/
import Derived.Test.YtlbbmfmkhmmikaaGreatWk
import Derived.Test.YtlbbmfmkhmmikaaGreatURdA
namespace Go.Proofs.YtlbbmfmkhmmikaaGreat
open Go.RowKit
section
variable {x : Nat} {v : Value} {bs : List (Nat × Nat)} {s : ST} {k : Nat}
theorem reader_view {addr : Int} {i : Nat} {u : UN} {se tk st : Nat} {cs : List (List UInt8)} (hz : s.us.length ≤ 16) (hf : s.find addr = some i) (hu : s.us[i]? = some u) (hd : u.dev = .reader se tk st cs) (hb : bs.length = s.us.length) :
    ∃ db, ∀ (W : World) (F : List SA) (w : World), SL W (setO x v bs s :: F) w →
      Calls Tryz.prog 29 #[.pointer (some ⟨x, 0, none⟩), .int .i64 addr] w (fun e w' => e = .returned (.pointer (some ⟨db, 0, none⟩)) ∧ w' = w) ∧
      Calls Tryz.prog 34 #[.pointer (some ⟨db, 0, none⟩)] w (fun e w' => e = .returned (.int .i64 (tk : Int)) ∧ w' = w) ∧
      Calls Tryz.prog 35 #[.pointer (some ⟨db, 0, none⟩)] w (fun e w' => e = .returned (.int .i64 (cs.length : Int)) ∧ w' = w) := by
  obtain ⟨b, db, hp⟩ := bs_get hb hu
  refine ⟨db, fun W F w S => ?_⟩
  have h := getReader_any addr hz S
  rw [getP_some hf hp hu, hd, if_pos (by rfl)] at h
  have S1 := (dev_open hp hu S).2
  rw [hd] at S1
  exact ⟨h, (U.rtaken_any db se tk st cs S1).mono fun _ _ h => ⟨h.1, h.2.symm⟩, (U.rcards_any db se tk st cs S1).mono fun _ _ h => ⟨h.1, h.2.symm⟩⟩
theorem punch_view {addr : Int} {i : Nat} {u : UN} {se : Nat} {cs : List (List UInt8)} (ok : s.ok k) (hf : s.find addr = some i) (hu : s.us[i]? = some u) (hd : u.dev = .punch se cs) (hb : bs.length = s.us.length) :
    ∃ db, ∀ (W : World) (F : List SA) (w : World), SL W (setO x v bs s :: F) w →
      Calls Tryz.prog 21 #[.pointer (some ⟨x, 0, none⟩), .int .i64 addr] w (fun e w' => e = .returned (.pointer (some ⟨db, 0, none⟩)) ∧ w' = w) ∧
      Calls Tryz.prog 22 #[.pointer (some ⟨db, 0, none⟩)] w (fun e w' => ∃ A c, e = .returned (.slice A cs.length c) ∧ SL W (U.deckS (.slice A cs.length c) cs :: setO x v bs s :: F) w') := by
  obtain ⟨b, db, hp⟩ := bs_get hb hu
  refine ⟨db, fun W F w S => ?_⟩
  have h := getPunch_any addr ok.len S
  rw [getP_some hf hp hu, hd, if_pos (by rfl)] at h
  have S1 := (dev_open hp hu S).2
  rw [hd] at S1
  have o := (ok.us u (List.mem_of_getElem? hu)).dev
  rw [hd] at o
  refine ⟨h, (U.pundeck_any db se cs S1 o.2.1 (fun c hc => by rw [o.2.2 c hc]; decide)).mono fun _ _ ⟨A, c, h, S2⟩ => ⟨A, c, h, ?_⟩⟩
  have S3 := SL.b5 S2
  exact (dev_same hb hp hu (F := U.deckS (.slice A cs.length c) cs :: F) (by rw [hd]; exact S3)).s1
theorem printer_view {addr : Int} {i : Nat} {u : UN} {p : U.PS} (ok : s.ok k) (hk : 60 * k ≤ 1000000000) (hf : s.find addr = some i) (hu : s.us[i]? = some u) (hd : u.dev = .printer p) (hb : bs.length = s.us.length) :
    ∃ db, ∀ (W : World) (F : List SA) (w : World), SL W (setO x v bs s :: F) w →
      Calls Tryz.prog 30 #[.pointer (some ⟨x, 0, none⟩), .int .i64 addr] w (fun e w' => e = .returned (.pointer (some ⟨db, 0, none⟩)) ∧ w' = w) ∧
      Calls Tryz.prog 36 #[.pointer (some ⟨db, 0, none⟩)] w (fun e w' => ∃ A c, e = .returned (.slice A p.lines.length c) ∧ SL W (U.linesS (.slice A p.lines.length c) p.lines :: setO x v bs s :: F) w') := by
  obtain ⟨b, db, hp⟩ := bs_get hb hu
  refine ⟨db, fun W F w S => ?_⟩
  have h := getPrinter_any addr ok.len S
  rw [getP_some hf hp hu, hd, if_pos (by rfl)] at h
  have S1 := (dev_open hp hu S).2
  rw [hd] at S1
  have o := (ok.us u (List.mem_of_getElem? hu)).dev
  rw [hd] at o
  refine ⟨h, (U.prpaper_any ⟨o.1, o.2.1, Nat.le_trans o.2.2 hk⟩ S1).mono fun _ _ ⟨A, c, h, S2⟩ => ⟨A, c, h, ?_⟩⟩
  have S3 := SL.b5 S2
  exact (dev_same hb hp hu (F := U.linesS (.slice A p.lines.length c) p.lines :: F) (by rw [hd]; exact S3)).s1
theorem tape_view {addr : Int} {i : Nat} {u : UN} {n : ByteArray} {p : T.TP} (ok : s.ok k) (hf : s.find addr = some i) (hu : s.us[i]? = some u) (hd : u.dev = .tape n p) (hb : bs.length = s.us.length) :
    ∃ db, ∀ (W : World) (F : List SA) (w : World), SL W (setO x v bs s :: F) w →
      Calls Tryz.prog 17 #[.pointer (some ⟨x, 0, none⟩), .int .i64 addr] w (fun e w' => e = .returned (.pointer (some ⟨db, 0, none⟩)) ∧ w' = w) ∧
      Calls Tryz.prog 20 #[.pointer (some ⟨db, 0, none⟩)] w (fun e w' => e = .returned (.int .i64 (p.pos : Int)) ∧ SL W (setO x v bs s :: F) w') ∧
      Calls Tryz.prog 18 #[.pointer (some ⟨db, 0, none⟩)] w (fun e w' => ∃ A c, e = .returned (.slice A p.bs.length c) ∧ SL W (T.blksS (.slice A p.bs.length c) p.bs :: setO x v bs s :: F) w') := by
  obtain ⟨b, db, hp⟩ := bs_get hb hu
  refine ⟨db, fun W F w S => ?_⟩
  have h := getTape_any addr ok.len S
  rw [getP_some hf hp hu, hd, if_pos (by rfl)] at h
  have S1 := (dev_open hp hu S).2
  rw [hd] at S1
  have o := (ok.us u (List.mem_of_getElem? hu)).dev
  rw [hd] at o
  refine ⟨h, (T.at_any (s := p) S1).mono fun _ _ ⟨h, S2⟩ => ⟨h, dev_same hb hp hu (by rw [hd]; exact S2)⟩, (T.blocks_any (s := p) S1 o.2.1.fit).mono fun _ _ ⟨v1, h, S2⟩ => ?_⟩
  obtain ⟨A, c, rfl, _, _⟩ := T.blksS_slice S2
  have S3 := SL.b5 S2
  exact ⟨A, c, h, (dev_same hb hp hu (F := T.blksS (.slice A p.bs.length c) p.bs :: F) (by rw [hd]; exact S3)).s1⟩
theorem disk_view {addr : Int} {i : Nat} {u : UN} {d : D.DK} (ok : s.ok k) (hf : s.find addr = some i) (hu : s.us[i]? = some u) (hd : u.dev = .disk d) (hb : bs.length = s.us.length) :
    ∃ db, ∀ (W : World) (F : List SA) (w : World), SL W (setO x v bs s :: F) w →
      Calls Tryz.prog 31 #[.pointer (some ⟨x, 0, none⟩), .int .i64 addr] w (fun e w' => e = .returned (.pointer (some ⟨db, 0, none⟩)) ∧ w' = w) ∧
      ∀ n : Int, Calls Tryz.prog 33 #[.pointer (some ⟨db, 0, none⟩), .int .i64 n] w (fun e w' => ∃ A c, e = .returned (.tuple #[.slice A (D.trkOf d n).length c, .bool (D.trkIs d n)]) ∧ SL W (D.recsS (.slice A (D.trkOf d n).length c) (D.trkOf d n) :: setO x v bs s :: F) w') := by
  obtain ⟨b, db, hp⟩ := bs_get hb hu
  refine ⟨db, fun W F w S => ?_⟩
  have h := getDisk_any addr ok.len S
  rw [getP_some hf hp hu, hd, if_pos (by rfl)] at h
  have S1 := (dev_open hp hu S).2
  rw [hd] at S1
  have o := (ok.us u (List.mem_of_getElem? hu)).dev
  rw [hd] at o
  refine ⟨h, fun n => (D.track_any n o S1).mono fun _ _ ⟨A, c, h, S2⟩ => ⟨A, c, h, ?_⟩⟩
  have S3 := SL.b5 S2
  exact (dev_same hb hp hu (F := D.recsS (.slice A (D.trkOf d n).length c) (D.trkOf d n) :: F) (by rw [hd]; exact S3)).s1
end
end Go.Proofs.YtlbbmfmkhmmikaaGreat
